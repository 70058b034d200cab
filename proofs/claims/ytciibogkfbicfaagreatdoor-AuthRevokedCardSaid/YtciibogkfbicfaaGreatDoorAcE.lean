/- SgB, SgC, SgD, SgE, SgL, AuY, AvA, AvB, AvC, MsgB, MsgCnt, MsgChk, AvD, StLk, AvE, AvF, AvG, StNext: what the claims need of them. -/
import Derived.Lib.SlBuf
import Derived.Laws.CopyRow
import Derived.Test.YtciibogkfbicfaaGreatDoorAcD
open Go.Proofs.Tryz
set_option linter.unusedVariables false
set_option linter.unusedSimpArgs false
set_option maxRecDepth 20000
set_option maxHeartbeats 16000000
namespace Go.Proofs.YtciibogkfbicfaaGreatDoor
namespace RL
open Go.RowKit
end RL
namespace Kx
open Go.RowKit Go.Proofs.YtciibogkfbicfaaGreatDoor.Cl Go.Proofs.YtciibogkfbicfaaGreatDoor.Ed Go.Proofs.YtciibogkfbicfaaGreatDoor.Rf
theorem tab_upd {w w' : World} {s : List Nat} (h : Sha.Tables w) (hu : Sp.Upd w w' s) (hs : ∀ k ∈ s, 25 ≤ k) : Sha.Tables w' :=
 h.below (qm_ (Below.refl _ _) hu hs h.size) (Nat.le_refl _)
theorem red_toLe (l : List UInt8) : leN (⟨(dig5 l).toArray⟩ : ByteArray).data.toList % Ed.L = red l := rfl
theorem reduce_l (w : World) (v : Value) (xs : List ByteArray) (l : List UInt8) (hl : (Jo.joined xs).data.toList = l) (hz : l.length ≤ 100000) (hn : xs.length ≤ 100) (hT : Sha.Tables w) (hO : Ord w) (hv : Jo.Parts w v xs) : Calls prog 38 #[v] w fun e w' => e = .returned (.agg (Cv.bytesV (toLe 32 (red l)))) ∧ Below w.heap.size w w' := by
 obtain ⟨d, hd⟩ : ∃ d, dig5 l = d := exr
 have hdl : d.length = 64 := by rw [← hd, dig5_len]
 have HR := ϕ (show toLe 32 (leN (⟨d.toArray⟩ : ByteArray).data.toList % Ed.L) = toLe 32 (red l) from by rw [← hd, red_toLe])
 obtain ⟨rd, hrd⟩ : ∃ r, toLe 32 (red l) = r := exr
 rw [hrd] at HR ⊢
 have HRL := ϕ (show rd.length = 32 from by rw [← hrd, qw_])
 have HS := ϕ (fun W (hT : Sha.Tables W) (hv : Jo.Parts W v xs) => show Calls prog 77 #[v] W fun e w' => e = .returned (.agg (Cv.bytesV d)) ∧ Below W.heap.size W w' from hd ▸ sum_l W v xs l hl hz hn hT hv)
 have HT := ϕ hT
 have HO := ϕ hO
 have HP := ϕ hv
 have HDL := ϕ hdl
 have HDS := ϕ (show (⟨d.toArray⟩ : ByteArray).size = 64 from by show d.toArray.size = 64; rw [List.size_toArray]; exact hdl)
 clear hd hdl hl hz hn hT hO hv hrd
 go_enter func38, ntmps38
 go_upto_region 1 with fail
 obtain ⟨rb, hrb⟩ : ∃ n, w.heap.size = n := exr
 have HN := ϕ (show w.heap.size ≤ rb from Nat.le_of_eq hrb)
 have HB := ϕ (show Below w.heap.size w (w.alloc (.cells z32 22)) from (Below.refl _ _).alloc (Nat.le_refl _) _)
 have HRB := ϕ (show Rg.Blk (w.alloc (.cells z32 22)) rb 22 z32 from Rg.Blk.newAt hrb.symm _ _)
 have HT := ϕ (HT.out.below HB.out HT.out.size)
 have HO := ϕ (HO.out.below HB.out HO.out.size)
 have HP := ϕ (HP.out.below HB.out)
 rw [hrb]
 generalize (w.alloc (.cells z32 22)) = Y at *
 clear hrb
 go_upto_region 2 with (first
  | (go_at_call 77; refine (HS.out _ HT.out HP.out).mono ?_; rintro e w1 ⟨rfl, hb1⟩; have HRB := ϕ (HRB.out.below hb1 HRB.out.lt); have HO := ϕ (HO.out.below hb1 HO.out.size); have HB := tm HB hb1; clear hb1)
  | (refine Rg.qf_ rfl 29 _ _ rfl (Cv.bytesV d) _ 29 rfl rfl (by rw [Cv.qa_, HDL.out]; kernel_rfl) (by rw [Cv.qa_, HDL.out]; rfl) (Cv.qn_ _) ?_; intro V1 hX hbX; have HD := ϕ hX; have HRB := ϕ (HRB.out.below hbX HRB.out.lt); have HO := ϕ (HO.out.below hbX HO.out.size); have HB := tm HB hbX; clear hX hbX))
 go_wp2_with (first
  | ((with_reducible refine qd_ ?_); refine Cv.jr_ rfl 28 5 9 _ rfl underlying28 underlying5 underlying9 _ 0 64 64 d rfl HDL.out (Cv.Bytes.of_blk HD.out) ?_; skip)
  | (go_at_call 80; refine (Reduce_any _ ⟨d.toArray⟩ HDS.out HO.out).mono ?_; rintro e w2 ⟨rfl, hb1⟩; rw [HR.out]; have HRB2 := ϕ (HRB.out.below hb1 HRB.out.lt); have HB2 := ϕ (HB.out.trans (hb1.mono HB.out.size)); clear hb1)
  | ((with_reducible refine qd_ ?_); refine Cv.qs_ rfl 22 _ _ rfl rb (Cv.bytesV rd) z32 22 rfl rfl HRB2.out (by rw [Cv.qa_, HRL.out]; kernel_rfl) (by rw [Cv.qa_, HRL.out]; rfl) (Cv.qn_ _) ?_; intro V hV hgV; have HZ2 := ϕ hV; have HB3 := ϕ (HB2.out.grown hgV HB2.out.size (fun j e => by cases e; exact HN.out)); clear hV hgV))
 refine bodyPost_ret (v := .agg (Cv.bytesV rd))
  (results_cell_row results38 _ _ rb 22 _ (0, 0) _ rfl HZ2.out underlying22 rfl (by rw [Cv.qa_, HRL.out]; kernel_rfl)) rfl ?_
 exact ⟨rfl, HB3.out⟩
theorem Key_any (w : World) (seed : List UInt8) (hl : seed.length = 32) (hT : Sha.Tables w) : Calls prog 9 #[.agg (Cv.bytesV seed)] w fun e w' => e = .returned (.agg (Cv.bytesV (pub seed))) ∧ Below w.heap.size w w' := by
 obtain ⟨cd, ct, c1, c2, c3, c4, ecd, ect, hrq, cbeg⟩ := begin_e
 have CBE := ϕ cbeg
 obtain ⟨B0, hB0⟩ : ∃ R : E4, (⟨c1, c2, c3, c4⟩ : E4) = R := exr
 have hrB : Rq4 base B0 := hB0 ▸ hrq
 have hop := fun W (hW : Sha.Tables W) => open_any W seed hl hW
 obtain ⟨sa, hsa⟩ : ∃ s, secA (dig5 seed) = s := exr
 obtain ⟨pf, hpf⟩ : ∃ s, (dig5 seed).drop 32 = s := exr
 have hsl : sa.length = 32 := by rw [← hsa]; exact clampB_l _ (dig5_len _)
 obtain ⟨ke, hke⟩ : ∃ s, pub seed = s := exr
 have hkp : pub seed = enc (Pt.mul (leN sa) base) := by rw [← hsa]; rfl
 rw [hsa, hpf] at hop
 obtain ⟨R1, hR1, cmu⟩ := mult_q (cd := cd) (ct := ct) (c1 := c1) (c2 := c2) (c3 := c3) (c4 := c4) ect hrB sa hsl
 have cby := bytes_q hR1
 rw [← hkp, hke] at cby
 rw [hke]
 have HOP := ϕ hop
 have CMU := ϕ (hB0 ▸ cmu)
 have CBY := ϕ cby
 have HSL := ϕ hsl
 have HKL := ϕ (show ke.length = 32 from by rw [← hke, hkp]; exact enc_len _)
 have HL := ϕ hl
 have HT := ϕ hT
 clear hop hsa hpf hsl hke hkp hR1 cmu cby hl hT ecd ect hrq cbeg hB0 hrB
 go_enter func9, ntmps9
 go_upto_region 1 with ((with_reducible refine qd_ ?_); refine Rg.qh_ rfl 22 _ rfl (Cv.bytesV seed) rfl ?_; intro X hX hbX hnX; have HX := ϕ hX; have HBX := ϕ hbX; clear hX hbX hnX)
 obtain ⟨sb, hsb⟩ : ∃ n, w.heap.size = n := exr
 obtain ⟨rb, hrb⟩ : ∃ n, X.heap.size = n := exr
 have HGR := ϕ (show w.heap.size ≤ rb from hrb ▸ HBX.out.size)
 have NT := ϕ (show 25 ≤ rb from Nat.le_trans HT.out.size HGR.out)
 have Hsb := ϕ (show Rg.Blk (X.alloc (.cells z32 22)) sb 22 (Cv.bytesV seed) from (hsb ▸ HX.out).alloc _)
 have HRB := ϕ (show Rg.Blk (X.alloc (.cells z32 22)) rb 22 z32 from Rg.Blk.newAt hrb.symm _ _)
 have Nsb := ϕ (show ¬ sb = rb from by have h := (hsb ▸ HX.out).lt; omega)
 have HB := ϕ (show Below w.heap.size w (X.alloc (.cells z32 22)) from HBX.out.alloc HBX.out.size _)
 have HT := ϕ (HT.out.below HB.out HT.out.size)
 try rw [hsb]
 try rw [hrb]
 clear HX HBX hsb hrb
 generalize (X.alloc (.cells z32 22)) = Y at *
 go_upto_region 2 with (go_at_call 33; refine (CBE.out _).mono ?_; rintro e w1 ⟨⟨cb, hcb, rfl, hcv⟩, hb1⟩; have Ncb := ϕ (show ¬ cb = rb from by have h := HRB.out.lt; omega); have Hcb := ϕ (show Rg.Blk w1 cb 84 (u64s (els [cd, ct, c1, c2, c3, c4])) from hcv); have Hsb := ϕ (Hsb.out.below hb1 Hsb.out.lt); have HRB := ϕ (HRB.out.below hb1 HRB.out.lt); have HT := ϕ (HT.out.below hb1 HT.out.size); have HB := tm HB hb1; clear hb1 hcv hcb)
 refine RL.start (fun W => Sp.Upd w1 W [rb]) (by kernel_rfl) (Sp.Upd.trans (Sp.Upd.refl _ _) (Sp.Upd.of_below (Below.drew (Below.refl _ _))) (by simp)) ?_
 refine RL.tu 0 ?_; go_frame
 refine RL.tw 1 (v := .agg (Cv.bytesV seed)) rfl (fun W hSW => RT.qy_ 22 _ rfl _ rfl _ _ (qk_ hSW Hsb.out (by simp; exact Nsb.out)) underlying22 rfl (by rw [Cv.qa_, HL.out]; kernel_rfl)) ?_
 try go_frame
 refine' RL.td 2 (v := (.agg (secV sa pf))) 35 #[.agg (Cv.bytesV seed)] ?hc16 ?_
 case hc16 => (intro W hSW; exact (HOP.out W (tab_upd HT.out hSW (by simp; exact NT.out))).mono (fun e w9 h9 => ⟨h9.1, h9.2, Sp.Upd.trans hSW (Sp.Upd.of_below h9.2) (by simp)⟩))
 try go_frame
 refine' RL.tv 3 ?hk17 ?_
 case hk17 => (intro W hSW; have x1 := run_secF W sa pf HSL.out; go_simp; try with_reducible rfl)
 try go_frame
 refine RL.tu 4 ?_; go_frame
 refine RL.tu 5 ?_; go_frame
 refine RL.tu 6 ?_; go_frame
 refine RL.tw 7 (v := .agg (u64s (els [c1, c2, c3, c4]))) rfl (fun W hSW => qo_ 78 _ rfl cb 10 rfl (u64s (els [c1, c2, c3, c4])) (els_at (qk_ hSW Hcb.out (by simp; exact Ncb.out)) 2 10 [c1, c2, c3, c4] rfl rfl (by simp)) underlying78 rfl (by kernel_rfl)) ?_
 try go_frame
 refine' RL.td 8 (v := (.agg (u64s (els [R1.x, R1.y, R1.z, R1.t])))) 34 #[.pointer (some ⟨cb, 0, none⟩), .agg (Cv.bytesV sa), .agg (u64s (els [c1, c2, c3, c4]))] ?hc21 ?_
 case hc21 => (intro W hSW; exact (CMU.out cb W (qk_ hSW Hcb.out (by simp; exact Ncb.out))).mono (fun e w9 h9 => ⟨h9.1, h9.2, Sp.Upd.trans hSW (Sp.Upd.of_below h9.2) (by simp)⟩))
 try go_frame
 refine' RL.td 9 (v := (.agg (Cv.bytesV ke))) 36 #[.agg (u64s (els [R1.x, R1.y, R1.z, R1.t]))] ?hc22 ?_
 case hc22 => (intro W hSW; exact (CBY.out W).mono (fun e w9 h9 => ⟨h9.1, h9.2, Sp.Upd.trans hSW (Sp.Upd.of_below h9.2) (by simp)⟩))
 try go_frame
 refine RL.sk 10 (fun va hlva hsva K hK => ?_)
 have hO := (HRB.out.below (Below.drew (Below.refl _ _)) HRB.out.lt).below hlva (by have := HRB.out.lt; simpa using this)
 refine qg_ 22 _ _ rfl rb (Cv.bytesV ke) _ 22 rfl (by rfl) hO (by rw [Cv.qa_, HKL.out]; kernel_rfl) (by rw [Cv.qa_, HKL.out]; rfl) (Cv.qn_ _) ?_
 intro Y hY hgY
 refine hK.out _ _ (Sp.Upd.trans hsva (Sp.Upd.of_grown1 hgY) (fun q hq => .inl hq)) ?_
 clear hK
 try go_frame
 refine RL.done (by kernel_rfl) (fun V hlV hsV => ?_)
 have HR := ϕ (show Rg.Blk V rb 22 (Cv.bytesV ke) from Rg.Blk.below hY hlV hY.lt)
 have HB := ϕ (qm_ HB.out hsV (fun k hk => by simp at hk; rw [hk]; exact HGR.out) HB.out.size)
 clear hO hY hgY hlva hsva hlV hsV
 go_wp2_with fail
 refine bodyPost_ret (v := .agg (Cv.bytesV ke))
  (results_cell_row results9 _ _ rb 22 _ (0, 0) _ rfl HR.out underlying22 rfl (by rw [Cv.qa_, HKL.out]; kernel_rfl)) rfl ?_
 exact ⟨rfl, HB.out⟩
end Kx
namespace RL
open Go.RowKit
theorem jc_ {P : Program} {o : Oper} {a : Act} {w : World} {K : Act → World → Prop} {Q : Exit → Act → World → Prop} {F : FuncId} {args : Array Value} (hv : (execOp a.eval o).run P w = .ok (.enter F args) w) (h : Calls P F args w fun e w' => ∃ v, e = .returned v ∧ K (a.put o.dst v) w') : o.wp P a w K Q := by
 unfold Oper.wp
 rw [hv]
 refine Calls.mono h ?_
 rintro e w' ⟨v, rfl, hk⟩
 exact hk
theorem jl_ {P : Program} {o : Oper} {a : Act} {w w' : World} {K : Act → World → Prop} {Q : Exit → Act → World → Prop} {v : Value} (hv : (execOp a.eval o).run P w = .ok (.value v) w') (h : K (a.put o.dst v) w') : o.wp P a w K Q := by
 unfold Oper.wp
 rw [hv]
 exact h
theorem rest_of {T : Nat → Nat → World → Prop} {G : Prop} (F : Nat → Nat → World → Prop) (h1 : (∀ b c W, F b c W → T b c W) → G) (h2 : ∀ b c W, F b c W → T b c W) : G := h1 h2
theorem norm {P : Program} {md : Region.Mode} {ops : Array Oper} {Q : Exit → Act → World → Prop} {S : World → Prop} {fuel : Nat} {listed : Array Bool} {a : Act} {w : World} (l' : Array Bool) (h : listed = l') (hh : H P md ops Q S w fuel l' a) : H P md ops Q S w fuel listed a := h ▸ hh
end RL
namespace Kx
open Go.RowKit Go.Proofs.YtciibogkfbicfaaGreatDoor.Cl Go.Proofs.YtciibogkfbicfaaGreatDoor.Ed Go.Proofs.YtciibogkfbicfaaGreatDoor.Rf
theorem parts_blk {w : World} {T b : Nat} (xs : List ByteArray) (h : Rg.Blk w b T (xs.map Value.string).toArray) (n : Nat) (hn : n = xs.length) : Jo.Parts w (.slice (some ⟨b, 0, none⟩) n n) xs := by
 subst hn
 exact .inr ⟨b, 0, xs.length, rfl, fun j x hx => by rw [Nat.zero_add]; exact h.cell j (by simp [hx]), h.lt, Nat.le_refl _⟩
theorem copy_op {P : Program} {o : Oper} {a : Act} {w : World} {K : Act → World → Prop} {Q : Exit → Act → World → Prop} (d s : Operand) (t t' e : TypeId) (ho : o.op = .call { callee := .builtin .copy, args := #[d, s], argTypes := #[t, t'] })
 {b off dl dc g so sl sc T : Nat} {l src : List UInt8} (hd : a.eval d = .slice (some ⟨b, off, none⟩) dl dc) (hs : a.eval s = .slice (some ⟨g, so, none⟩) sl sc) (hu : P.underlying t = some (.slice e)) (hz : (P.info? e).map (·.size) = some 1)
 (hB : Rg.Blk w b T (Cv.bytesV l)) (hS : Cv.Bytes w g so src) (hn : src.length = Nat.min sl dl) (hf : off + src.length ≤ l.length)
 (h : ∀ X v, Rg.Blk X b T (Cv.bytesV (l.take off ++ src ++ l.drop (off + src.length))) → w.grownBy X (some b) → K (a.put o.dst v) X) : Oper.wp P o a w K Q := by
 have hl : (Lib.byteCells src).length = src.length := by simp [Lib.byteCells]
 have hr := run_copy_row (P := P) w t t' o.type e b off dl dc ⟨g, so, none⟩ sl sc (Cv.bytesV l) T (Lib.byteCells src) hu hz hB (hl.trans hn) (fun j v hv => by
  have hv2 : (Cv.bytesV src)[j]? = some v := by unfold Cv.bytesV; rw [List.getElem?_toArray]; exact hv
  have h3 := hS.cells j v hv2
  have e3 : Addr.add ⟨g, so, none⟩ j = ⟨g, so + j, none⟩ := by unfold Addr.add; split <;> simp_all
  rw [e3]; exact h3) (by rw [hl, Cv.qa_]; exact hf) (by intro v hv; simp [Lib.byteCells] at hv; obtain ⟨x, _, rfl⟩ := hv; rfl)
 have e1 : ((Cv.bytesV l).toList.take off ++ Lib.byteCells src ++ (Cv.bytesV l).toList.drop (off + (Lib.byteCells src).length)).toArray = Cv.bytesV (l.take off ++ src ++ l.drop (off + src.length)) := by
  rw [hl]
  unfold Cv.bytesV
  simp [Lib.byteCells, List.map_take, List.map_drop]
 rw [e1] at hr
 refine Lib.wp_copy_run w d s t t' ho _ _ hd hs hr ?_
 exact h _ _ hB.setRow ⟨rfl, rfl, rfl, by simp, fun k _ hk => setRow_other w b k _ (fun e => hk (congrArg some e))⟩
theorem cb_ne_tb {W : World} {b T1 T2 : Nat} {c1 c2 : Array Value} (h1 : Rg.Blk W b T1 c1) (h2 : Rg.Blk W b T2 c2) (hT : T1 ≠ T2 := by decide) : False := by
 have := h1.symm.trans h2
 injection this with this
 injection this with _ this
 exact hT this
theorem muln_s {k a r : Nat} {ab : List UInt8} (hk : k < Ed.L) (hr : r < Ed.L) (ha : leN ab = a) : mulN (toLe 32 k) ab (toLe 32 r) % Ed.L = (k * a + r) % Ed.L := by
 unfold mulN
 rw [leN_l hk, leN_l hr, ha, Nat.mul_comm a, Nat.add_comm]
theorem Sign_any (w : World) (seed m : List UInt8) (hl : seed.length = 32) (hm : m.length ≤ 10000) (hT : Sha.Tables w) (hO : Ord w) : Calls prog 13 #[.agg (Cv.bytesV seed), .string (bs m)] w fun e w' => e = .returned (.agg (Cv.bytesV (sig seed (pub seed) m))) ∧ Below w.heap.size w w' := by
 obtain ⟨cd, ct, c1, c2, c3, c4, ecd, ect, hrq, cbeg⟩ := begin_e
 have CBE := ϕ cbeg
 obtain ⟨B0, hB0⟩ : ∃ R : E4, (⟨c1, c2, c3, c4⟩ : E4) = R := exr
 have hrB : Rq4 base B0 := hB0 ▸ hrq
 have hop := fun W (hW : Sha.Tables W) => open_any W seed hl hW
 obtain ⟨sa, hsa⟩ : ∃ s, secA (dig5 seed) = s := exr
 obtain ⟨pf, hpf⟩ : ∃ s, (dig5 seed).drop 32 = s := exr
 have hsl : sa.length = 32 := by rw [← hsa]; exact clampB_l _ (dig5_len _)
 have hpl : pf.length = 32 := by rw [← hpf, List.length_drop, dig5_len]
 have han : leN sa = aN seed := by rw [← hsa]; rfl
 obtain ⟨ke, hke⟩ : ∃ s, pub seed = s := exr
 have hkp : pub seed = enc (Pt.mul (leN sa) base) := by rw [← hsa]; rfl
 rw [hsa, hpf] at hop
 obtain ⟨rr, hrr⟩ : ∃ s, toLe 32 (rN seed m) = s := exr
 have hrl : rr.length = 32 := by rw [← hrr, qw_]
 have hrn : rN seed m < Ed.L := red_lt _
 obtain ⟨rp, hat⟩ : ∃ s, enc (rP seed m) = s := exr
 have hatl : rp.length = 32 := by rw [← hat]; exact enc_len _
 have hkl : ke.length = 32 := by rw [← hke, hkp]; exact enc_len _
 obtain ⟨kk, hkk⟩ : ∃ s, toLe 32 (red (rp ++ ke ++ m)) = s := exr
 have hkkl : kk.length = 32 := by rw [← hkk, qw_]
 obtain ⟨ss, hss⟩ : ∃ s, toLe 32 (sN seed ke m) = s := exr
 have hssl : ss.length = 32 := by rw [← hss, qw_]
 have hms : toLe 32 (mulN kk sa rr % Ed.L) = ss := by
  rw [← hkk, ← hrr, muln_s (red_lt _) hrn han, ← hss]
  unfold sN
  rw [hat]
 obtain ⟨R1, hR1, cm1⟩ := mult_q (cd := cd) (ct := ct) (c1 := c1) (c2 := c2) (c3 := c3) (c4 := c4) ect hrB sa hsl
 have cb1 := bytes_q hR1
 rw [← hkp, hke] at cb1
 obtain ⟨R2, hR2, cm2⟩ := mult_q (cd := cd) (ct := ct) (c1 := c1) (c2 := c2) (c3 := c3) (c4 := c4) ect hrB rr hrl
 have cb2 := bytes_q hR2
 rw [← hrr, leN_l hrn, show enc (Pt.mul (rN seed m) base) = enc (rP seed m) from rfl, hat] at cb2
 have HRES := ϕ (show sig seed ke m = rp ++ ss from by unfold sig; rw [hat, hss])
 have HR1 := ϕ (fun W v (hT : Sha.Tables W) (hO : Ord W) (hv : Jo.Parts W v [bs pf, bs m]) => show Calls prog 38 #[v] W fun e w' => e = .returned (.agg (Cv.bytesV rr)) ∧ Below W.heap.size W w' from by
  have h := reduce_l W v _ (pf ++ m) (by rw [Jo.joined_list]; simp [bs_list]) (by rw [List.length_append]; omega) (by simp) hT hO hv
  rw [← hrr]
  unfold rN
  rw [hpf]
  exact h)
 have HR2 := ϕ (fun W v (hT : Sha.Tables W) (hO : Ord W) (hv : Jo.Parts W v [⟨rp.toArray⟩, ⟨ke.toArray⟩, bs m]) => show Calls prog 38 #[v] W fun e w' => e = .returned (.agg (Cv.bytesV kk)) ∧ Below W.heap.size W w' from by
  have h := reduce_l W v _ (rp ++ ke ++ m) (by rw [Jo.joined_list]; simp [bs_list]) (by rw [List.length_append, List.length_append]; omega) (by simp) hT hO hv
  rw [← hkk]
  exact h)
 have CMA := ϕ (fun W (hO : Ord W) => show Calls prog 39 #[.agg (Cv.bytesV kk), .agg (Cv.bytesV sa), .agg (Cv.bytesV rr)] W fun e w' => e = .returned (.agg (Cv.bytesV ss)) ∧ Below W.heap.size W w' from hms ▸ MulAdd_any W kk sa rr hkkl hsl hrl hO)
 have HOP := ϕ hop
 have CM1 := ϕ (hB0 ▸ cm1)
 have CB1 := ϕ cb1
 have CM2 := ϕ (hB0 ▸ cm2)
 have CB2 := ϕ cb2
 have HSL := ϕ hsl
 have HKL := ϕ hkl
 have HRL := ϕ hrl
 have HAL := ϕ hatl
 have HSS := ϕ hssl
 have HGL := ϕ (show (rp ++ ss).length = 64 from by rw [List.length_append]; omega)
 have EQ1 := ϕ (show (List.replicate 64 (0 : UInt8)).take 0 ++ rp ++ (List.replicate 64 (0 : UInt8)).drop (0 + rp.length) = rp ++ List.replicate 32 0 from by rw [hatl]; simp)
 have EQ2 := ϕ (show (rp ++ List.replicate 32 (0 : UInt8)).take 32 ++ ss ++ (rp ++ List.replicate 32 (0 : UInt8)).drop (32 + ss.length) = rp ++ ss from by
  rw [List.take_append_of_le_length (by omega), List.take_of_length_le (by omega), List.drop_eq_nil_of_le (by simp; omega), List.append_nil])
 have HL := ϕ hl
 have HT := ϕ hT
 have HO := ϕ hO
 rw [hke]
 clear hop hsa hpf hsl hpl han hke hkp hR1 cm1 cb1 hR2 cm2 cb2 hrr hrl hrn hat hatl hkl hkk hkkl hss hssl hms hl hm hT hO ecd ect hrq cbeg hB0 hrB
 go_enter func13, ntmps13
 go_upto_region 1 with ((with_reducible refine qd_ ?_); refine Rg.qh_ rfl 22 _ rfl (Cv.bytesV seed) rfl ?_; intro X hX hbX hnX; have HX := ϕ hX; have HBX := ϕ hbX; clear hX hbX hnX)
 obtain ⟨sb, hsb⟩ : ∃ n, w.heap.size = n := exr
 obtain ⟨rb, hrb⟩ : ∃ n, X.heap.size = n := exr
 have GR := ϕ (show w.heap.size ≤ rb from hrb ▸ HBX.out.size)
 have Hsb := ϕ (show Rg.Blk (X.alloc (.cells z64 29)) sb 22 (Cv.bytesV seed) from (hsb ▸ HX.out).alloc _)
 have Hrb := ϕ (show Rg.Blk (X.alloc (.cells z64 29)) rb 29 z64 from Rg.Blk.newAt hrb.symm _ _)
 have HB := ϕ (show Below w.heap.size w (X.alloc (.cells z64 29)) from HBX.out.alloc HBX.out.size _)
 have HT := ϕ (HT.out.below HB.out HT.out.size)
 have HO := ϕ (HO.out.below HB.out HO.out.size)
 try rw [hsb]
 try rw [hrb]
 clear HX HBX hsb hrb
 generalize (X.alloc (.cells z64 29)) = Y at *
 refine RL.start (RL.Aft Y) (by kernel_rfl) (RL.Aft.drew (RL.Aft.refl Y)) ?_
 refine RL.tw 1 (v := .agg (Cv.bytesV seed)) rfl (fun W hSW => RT.qy_ 22 _ rfl _ rfl _ _ (qc_ hSW Hsb.out) underlying22 rfl (by rw [Cv.qa_, HL.out]; kernel_rfl)) ?_
 try go_frame
 refine' RL.rest_of (T := ?TTq7) (fun cb tb W => RL.Aft Y W ∧ Rg.Blk W cb 84 (u64s (els [cd, ct, c1, c2, c3, c4])) ∧ Rg.Blk W tb 81 z33 ∧ Y.heap.size ≤ tb) ?hmainq7 ?hrrq7
 case hmainq7 =>
  intro hrest
  refine RL.step2 (i := 0) (j := 3) rfl rfl (by kernel_rfl) (by rfl) (by rfl) (fun y8 hly8 hsy8 K hK => ?_) (fun y8 hly8 hsy8 K hK => ?_)
  · refine RL.jc_ (F := 33) (args := #[]) (by go_simp; try rfl) ?_
    refine (CBE.out y8).mono ?_
    rintro e y8x ⟨⟨cb, hcb, rfl, kcb⟩, hb⟩
    have hSy8x : RL.Aft Y y8x := RL.Aft.lat hsy8 hb
    refine ⟨_, rfl, hK.out _ _ (RL.Aft.lat hsy8 hb) ?_⟩
    have kcb : Rg.Blk y8x cb 84 (u64s (els [cd, ct, c1, c2, c3, c4])) := kcb
    clear hK
    try go_frame
    refine' RL.td 2 (v := (.agg (secV sa pf))) 35 #[.agg (Cv.bytesV seed)] ?hc25 ?_
    case hc25 => (intro W hSW; exact (HOP.out W (HT.out.below hSW HT.out.size)).mono (fun e w9 h9 => ⟨h9.1, h9.2, RL.Aft.lat hSW h9.2⟩))
    try go_frame
    refine RL.sk 3 (fun y9 hly9 hsy9 K hK => ?_)
    have kcb := kcb.below hly9 kcb.lt
    refine RL.jl_ (v := .pointer (some ⟨y9.heap.size, 0, none⟩)) (w' := y9.alloc (.cells z33 81)) (by go_simp; try rfl) ?_
    obtain ⟨tb, htb⟩ : ∃ n, y9.heap.size = n := exr
    have hba : Below y9.heap.size y9 (y9.alloc (.cells z33 81)) := (Below.refl _ _).alloc (Nat.le_refl _) _
    have ktb : Rg.Blk (y9.alloc (.cells z33 81)) tb 81 z33 := Rg.Blk.newAt htb.symm _ _
    have gtb : Y.heap.size ≤ tb := by rw [← htb]; exact (show RL.Aft Y y9 from hsy9).size
    have kcb := kcb.below hba kcb.lt
    refine hK.out _ _ (RL.Aft.alloc hsy9 _) ?_
    try rw [htb]
    have hSy9y : RL.Aft Y (y9.alloc (.cells z33 81)) := RL.Aft.alloc hsy9 _
    generalize hyy9 : y9.alloc (.cells z33 81) = y9y at *
    clear htb hba hyy9
    clear hK
    try go_frame
    refine RL.norm #[true, true, true, true, false, false] (by kernel_rfl) ?_
    exact hrest cb tb _ ⟨by assumption, kcb, ktb, gtb⟩
  · refine RL.jl_ (v := .pointer (some ⟨y8.heap.size, 0, none⟩)) (w' := y8.alloc (.cells z33 81)) (by go_simp; try rfl) ?_
    obtain ⟨tb, htb⟩ : ∃ n, y8.heap.size = n := exr
    have hba : Below y8.heap.size y8 (y8.alloc (.cells z33 81)) := (Below.refl _ _).alloc (Nat.le_refl _) _
    have ktb : Rg.Blk (y8.alloc (.cells z33 81)) tb 81 z33 := Rg.Blk.newAt htb.symm _ _
    have gtb : Y.heap.size ≤ tb := by rw [← htb]; exact (show RL.Aft Y y8 from hsy8).size
    refine hK.out _ _ (RL.Aft.alloc hsy8 _) ?_
    try rw [htb]
    have hSy8y : RL.Aft Y (y8.alloc (.cells z33 81)) := RL.Aft.alloc hsy8 _
    generalize hyy8 : y8.alloc (.cells z33 81) = y8y at *
    clear htb hba hyy8
    clear hK
    try go_frame
    refine RL.sk 0 (fun y10 hly10 hsy10 K hK => ?_)
    have ktb := ktb.below hly10 ktb.lt
    refine RL.jc_ (F := 33) (args := #[]) (by go_simp; try rfl) ?_
    refine (CBE.out y10).mono ?_
    rintro e y10x ⟨⟨cb, hcb, rfl, kcb⟩, hb⟩
    have hSy10x : RL.Aft Y y10x := RL.Aft.lat hsy10 hb
    have ktb := ktb.below hb ktb.lt
    refine ⟨_, rfl, hK.out _ _ (RL.Aft.lat hsy10 hb) ?_⟩
    have kcb : Rg.Blk y10x cb 84 (u64s (els [cd, ct, c1, c2, c3, c4])) := kcb
    clear hK
    try go_frame
    refine' RL.td 2 (v := (.agg (secV sa pf))) 35 #[.agg (Cv.bytesV seed)] ?hc26 ?_
    case hc26 => (intro W hSW; exact (HOP.out W (HT.out.below hSW HT.out.size)).mono (fun e w9 h9 => ⟨h9.1, h9.2, RL.Aft.lat hSW h9.2⟩))
    try go_frame
    refine RL.norm #[true, true, true, true, false, false] (by kernel_rfl) ?_
    exact hrest cb tb _ ⟨by assumption, kcb, ktb, gtb⟩
 case hrrq7 =>
  rintro cb tb Z0 ⟨ha0, kcb, hZ, gtb⟩
  have Ftb := ϕ gtb
  refine RL.tu 4 ?_; go_frame
  refine RL.sk 5 (fun va hlva hsva K hK => ?_)
  have hZ := hZ.below hlva hZ.lt
  have kcb := kcb.below hlva kcb.lt
  refine qg_ 81 _ _ rfl tb (secV sa pf) _ 81 rfl (by rfl) hZ (by rw [secV_size, HSL.out]; kernel_rfl) (by rw [secV_size, HSL.out]; rfl) (secV_one _ _) ?_
  intro Y9 hY hgY
  have kcb := qb_ kcb hgY (fun e => by subst e; exact cb_ne_tb kcb hZ)
  refine hK.out _ _ (Below.grown hsva hgY (Below.size hsva) (fun k hk => by cases hk; exact Ftb.out)) ?_
  clear hK
  try go_frame
  refine RL.done (by kernel_rfl) (fun Z1 hlZ1 hsZ1 => ?_)
  have Htb := ϕ (show Rg.Blk Z1 tb 81 (secV sa pf) from hY.below hlZ1 hY.lt)
  have Hcb := ϕ (show Rg.Blk Z1 cb 84 (u64s (els [cd, ct, c1, c2, c3, c4])) from kcb.below hlZ1 kcb.lt)
  clear hZ hY hgY hlva hsva kcb ha0 gtb Ftb
  have HA := ϕ (show RL.Aft Y Z1 from hsZ1)
  have Hrb := ϕ (qc_ HA.out Hrb.out)
  have HT := ϕ (HT.out.below HA.out HT.out.size)
  have HO := ϕ (HO.out.below HA.out HO.out.size)
  have HB := ϕ (HB.out.trans (Below.mono HA.out HB.out.size))
  clear HA hsZ1 hlZ1 Hsb
  go_upto_region 2 with fail
  refine RL.start (RL.Aft Z1) (by kernel_rfl) (RL.Aft.drew (RL.Aft.refl Z1)) ?_
  refine RL.tu 0 ?_; go_frame
  refine RL.tu 1 ?_; go_frame
  refine RL.tw 2 (v := .agg (Cv.bytesV sa)) rfl (fun W hSW => qo_ 22 _ rfl tb 0 rfl (Cv.bytesV sa) (fun j v hv => by rw [Nat.zero_add]; exact (qc_ hSW Htb.out).cell j (secV_get hv)) underlying22 rfl (by rw [Cv.qa_, HSL.out]; kernel_rfl)) ?_
  try go_frame
  refine RL.tu 3 ?_; go_frame
  refine RL.tu 4 ?_; go_frame
  refine RL.tu 5 ?_; go_frame
  refine RL.tw 6 (v := .agg (u64s (els [c1, c2, c3, c4]))) rfl (fun W hSW => qo_ 78 _ rfl cb 10 rfl (u64s (els [c1, c2, c3, c4])) (els_at (qc_ hSW Hcb.out) 2 10 [c1, c2, c3, c4] rfl rfl (by simp)) underlying78 rfl (by kernel_rfl)) ?_
  try go_frame
  refine' RL.td 7 (v := (.agg (u64s (els [R1.x, R1.y, R1.z, R1.t])))) 34 #[.pointer (some ⟨cb, 0, none⟩), .agg (Cv.bytesV sa), .agg (u64s (els [c1, c2, c3, c4]))] ?hc33 ?_
  case hc33 => (intro W hSW; exact (CM1.out cb W (qc_ hSW Hcb.out)).mono (fun e w9 h9 => ⟨h9.1, h9.2, RL.Aft.lat hSW h9.2⟩))
  try go_frame
  refine' RL.td 8 (v := (.agg (Cv.bytesV ke))) 36 #[.agg (u64s (els [R1.x, R1.y, R1.z, R1.t]))] ?hc34 ?_
  case hc34 => (intro W hSW; exact (CB1.out W).mono (fun e w9 h9 => ⟨h9.1, h9.2, RL.Aft.lat hSW h9.2⟩))
  try go_frame
  refine RL.sk 9 (fun wa hlwa hswa K hK => ?_)
  go_simp
  obtain ⟨kb, hkb⟩ : ∃ n, wa.heap.size = n := exr
  have hZ := Rg.Blk.newAt hkb.symm z32 22
  have Fkb := ϕ (show Z1.heap.size ≤ kb from hkb ▸ Below.size hswa)
  refine hK.out _ _ (RL.Aft.alloc hswa _) ?_
  try rw [hkb]
  clear hK hkb
  try go_frame
  refine RL.sk 10 (fun va hlva hsva K hK => ?_)
  have hZ := hZ.below hlva hZ.lt
  refine qg_ 22 _ _ rfl kb (Cv.bytesV ke) _ 22 rfl (by rfl) hZ (by rw [Cv.qa_, HKL.out]; kernel_rfl) (by rw [Cv.qa_, HKL.out]; rfl) (Cv.qn_ _) ?_
  intro Y9 hY hgY
  refine hK.out _ _ (Below.grown hsva hgY (Below.size hsva) (fun k hk => by cases hk; exact Fkb.out)) ?_
  clear hK
  try go_frame
  refine RL.done (by kernel_rfl) (fun Z2 hlZ2 hsZ2 => ?_)
  have Hkb := ϕ (show Rg.Blk Z2 kb 22 (Cv.bytesV ke) from hY.below hlZ2 hY.lt)
  clear hZ hY hgY hlva hsva
  have HA := ϕ (show RL.Aft Z1 Z2 from hsZ2)
  have Hrb := ϕ (qc_ HA.out Hrb.out)
  have Hcb := ϕ (qc_ HA.out Hcb.out)
  have Htb := ϕ (qc_ HA.out Htb.out)
  have HT := ϕ (HT.out.below HA.out HT.out.size)
  have HO := ϕ (HO.out.below HA.out HO.out.size)
  have HB := ϕ (HB.out.trans (Below.mono HA.out HB.out.size))
  clear HA hsZ2 hlZ2
  have xs := Htb.out.cell 32 (HSL.out ▸ secV_str sa pf)
  go_upto_region 4 with (first
   | (go_at_call 38; refine (HR1.out _ _ (HT.out.below ((Below.refl _ _).alloc (Nat.le_refl _) _) HT.out.size) (HO.out.below ((Below.refl _ _).alloc (Nat.le_refl _) _) HO.out.size) (parts_n _ _ [_, _] (by simp) 2 rfl)).mono ?_; rintro e w3 ⟨rfl, hb1⟩; have hb2 := (Below.alloc (Below.refl Z2.heap.size Z2) (Nat.le_refl _) _).trans (hb1.mono (by simp)); have Hrb := ϕ (Hrb.out.below hb2 Hrb.out.lt); have Hcb := bl Hcb hb2; have Htb := ϕ (Htb.out.below hb2 Htb.out.lt); have Hkb := ϕ (Hkb.out.below hb2 Hkb.out.lt); have HT := ϕ (HT.out.below hb2 HT.out.size); have HO := ϕ (HO.out.below hb2 HO.out.size); have HB := tm HB hb2; clear hb1 hb2)
   | (refine Rg.qf_ rfl 22 _ _ rfl (Cv.bytesV rr) _ 22 rfl rfl (by rw [Cv.qa_, HRL.out]; kernel_rfl) (by rw [Cv.qa_, HRL.out]; rfl) (Cv.qn_ _) ?_; intro Z3 hX hbX; have Hmb := ϕ hX; have Hrb := ϕ (Hrb.out.below hbX Hrb.out.lt); have Hcb := bl Hcb hbX; have Htb := ϕ (Htb.out.below hbX Htb.out.lt); have Hkb := ϕ (Hkb.out.below hbX Hkb.out.lt); have HT := ϕ (HT.out.below hbX HT.out.size); have HO := ϕ (HO.out.below hbX HO.out.size); have HB := tm HB hbX; clear hX hbX))
  obtain ⟨mb, hmb⟩ : ∃ n, w3.heap.size = n := exr
  have Hmb := ϕ (show Rg.Blk Z3 mb 22 (Cv.bytesV rr) from hmb ▸ Hmb.out)
  try rw [hmb]
  clear hmb xs
  refine RL.start (RL.Aft Z3) (by kernel_rfl) (RL.Aft.drew (RL.Aft.refl Z3)) ?_
  refine RL.tu 0 ?_; go_frame
  refine RL.tw 1 (v := .agg (Cv.bytesV rr)) rfl (fun W hSW => RT.qy_ 22 _ rfl _ rfl _ _ (qc_ hSW Hmb.out) underlying22 rfl (by rw [Cv.qa_, HRL.out]; kernel_rfl)) ?_
  try go_frame
  refine RL.tu 2 ?_; go_frame
  refine RL.tu 3 ?_; go_frame
  refine RL.tu 4 ?_; go_frame
  refine RL.tw 5 (v := .agg (u64s (els [c1, c2, c3, c4]))) rfl (fun W hSW => qo_ 78 _ rfl cb 10 rfl (u64s (els [c1, c2, c3, c4])) (els_at (qc_ hSW Hcb.out) 2 10 [c1, c2, c3, c4] rfl rfl (by simp)) underlying78 rfl (by kernel_rfl)) ?_
  try go_frame
  refine' RL.td 6 (v := (.agg (u64s (els [R2.x, R2.y, R2.z, R2.t])))) 34 #[.pointer (some ⟨cb, 0, none⟩), .agg (Cv.bytesV rr), .agg (u64s (els [c1, c2, c3, c4]))] ?hc39 ?_
  case hc39 => (intro W hSW; exact (CM2.out cb W (qc_ hSW Hcb.out)).mono (fun e w9 h9 => ⟨h9.1, h9.2, RL.Aft.lat hSW h9.2⟩))
  try go_frame
  refine' RL.td 7 (v := (.agg (Cv.bytesV rp))) 36 #[.agg (u64s (els [R2.x, R2.y, R2.z, R2.t]))] ?hc40 ?_
  case hc40 => (intro W hSW; exact (CB2.out W).mono (fun e w9 h9 => ⟨h9.1, h9.2, RL.Aft.lat hSW h9.2⟩))
  try go_frame
  refine RL.sk 8 (fun wa hlwa hswa K hK => ?_)
  go_simp
  obtain ⟨hb, hhb⟩ : ∃ n, wa.heap.size = n := exr
  have hZ := Rg.Blk.newAt hhb.symm z32 22
  have Fhb := ϕ (show Z3.heap.size ≤ hb from hhb ▸ Below.size hswa)
  refine hK.out _ _ (RL.Aft.alloc hswa _) ?_
  try rw [hhb]
  clear hK hhb
  try go_frame
  refine RL.sk 9 (fun va hlva hsva K hK => ?_)
  have hZ := hZ.below hlva hZ.lt
  refine qg_ 22 _ _ rfl hb (Cv.bytesV rp) _ 22 rfl (by rfl) hZ (by rw [Cv.qa_, HAL.out]; kernel_rfl) (by rw [Cv.qa_, HAL.out]; rfl) (Cv.qn_ _) ?_
  intro Y9 hY hgY
  refine hK.out _ _ (Below.grown hsva hgY (Below.size hsva) (fun k hk => by cases hk; exact Fhb.out)) ?_
  clear hK
  try go_frame
  refine RL.done (by kernel_rfl) (fun Z4 hlZ4 hsZ4 => ?_)
  have Hhb := ϕ (show Rg.Blk Z4 hb 22 (Cv.bytesV rp) from hY.below hlZ4 hY.lt)
  clear hZ hY hgY hlva hsva
  have HA := ϕ (show RL.Aft Z3 Z4 from hsZ4)
  have Hrb := ϕ (qc_ HA.out Hrb.out)
  have Htb := ϕ (qc_ HA.out Htb.out)
  have Hkb := ϕ (qc_ HA.out Hkb.out)
  have Hmb := ϕ (qc_ HA.out Hmb.out)
  have HT := ϕ (HT.out.below HA.out HT.out.size)
  have HO := ϕ (HO.out.below HA.out HO.out.size)
  have HB := ϕ (HB.out.trans (Below.mono HA.out HB.out.size))
  clear HA hsZ4 hlZ4
  go_upto_region 5 with fail
  refine RL.start (RL.Aft Z4) (by kernel_rfl) (RL.Aft.drew (RL.Aft.refl Z4)) ?_
  refine RL.tu 0 ?_; go_frame
  refine' RL.tv 1 ?hk42 ?_
  case hk42 => (intro W hSW; have x1 := Cv.zc_ (P := prog) W 28 5 9 underlying28 underlying5 underlying9 hb 0 32 32 rp HAL.out (Cv.Bytes.of_blk (qc_ hSW Hhb.out)); go_simp; try with_reducible rfl)
  try go_frame
  refine RL.tu 2 ?_; go_frame
  refine' RL.tv 3 ?hk44 ?_
  case hk44 => (intro W hSW; have x1 := Cv.zc_ (P := prog) W 28 5 9 underlying28 underlying5 underlying9 kb 0 32 32 ke HKL.out (Cv.Bytes.of_blk (qc_ hSW Hkb.out)); go_simp; try with_reducible rfl)
  try go_frame
  refine RL.tu 4 ?_; go_frame
  refine RL.tu 7 ?_; go_frame
  refine RL.tw 8 (v := .agg (Cv.bytesV sa)) rfl (fun W hSW => qo_ 22 _ rfl tb 0 rfl (Cv.bytesV sa) (fun j v hv => by rw [Nat.zero_add]; exact (qc_ hSW Htb.out).cell j (secV_get hv)) underlying22 rfl (by rw [Cv.qa_, HSL.out]; kernel_rfl)) ?_
  try go_frame
  refine RL.tw 9 (v := .agg (Cv.bytesV rr)) rfl (fun W hSW => RT.qy_ 22 _ rfl _ rfl _ _ (qc_ hSW Hmb.out) underlying22 rfl (by rw [Cv.qa_, HRL.out]; kernel_rfl)) ?_
  try go_frame
  refine' RL.rest_of (T := ?TTq11) (fun gb xb W => RL.Aft Z4 W ∧ Rg.Blk W xb 22 z32 ∧ Z4.heap.size ≤ xb) ?hmainq11 ?hrrq11
  case hmainq11 =>
   intro hrest
   refine RL.step2 (i := 5) (j := 11) rfl rfl (by kernel_rfl) (by rfl) (by rfl) (fun y12 hly12 hsy12 K hK => ?_) (fun y12 hly12 hsy12 K hK => ?_)
   · refine RL.jl_ (v := .slice (some ⟨y12.heap.size, 0, none⟩) 3 3) (w' := y12.alloc (.cells #[.string ⟨rp.toArray⟩, .string ⟨ke.toArray⟩, .string (bs m)] 9)) (by go_simp; try rfl) ?_
     obtain ⟨gb, hgb⟩ : ∃ n, y12.heap.size = n := exr
     have hba : Below y12.heap.size y12 (y12.alloc (.cells #[.string ⟨rp.toArray⟩, .string ⟨ke.toArray⟩, .string (bs m)] 9)) := (Below.refl _ _).alloc (Nat.le_refl _) _
     have kgb : Rg.Blk (y12.alloc (.cells #[.string ⟨rp.toArray⟩, .string ⟨ke.toArray⟩, .string (bs m)] 9)) gb 9 #[.string ⟨rp.toArray⟩, .string ⟨ke.toArray⟩, .string (bs m)] := Rg.Blk.newAt hgb.symm _ _
     have ggb : Z4.heap.size ≤ gb := by rw [← hgb]; exact (show RL.Aft Z4 y12 from hsy12).size
     refine hK.out _ _ (RL.Aft.alloc hsy12 _) ?_
     try rw [hgb]
     have hSy12y : RL.Aft Z4 (y12.alloc (.cells #[.string ⟨rp.toArray⟩, .string ⟨ke.toArray⟩, .string (bs m)] 9)) := RL.Aft.alloc hsy12 _
     generalize hyy12 : y12.alloc (.cells #[.string ⟨rp.toArray⟩, .string ⟨ke.toArray⟩, .string (bs m)] 9) = y12y at *
     clear hgb hba hyy12
     clear hK
     try go_frame
     refine RL.step2 (i := 6) (j := 11) rfl rfl (by kernel_rfl) (by rfl) (by rfl) (fun y13 hly13 hsy13 K hK => ?_) (fun y13 hly13 hsy13 K hK => ?_)
     · have kgb := kgb.below hly13 kgb.lt
       refine RL.jc_ (F := 38) (args := #[.slice (some ⟨gb, 0, none⟩) 3 3]) (by go_simp; try rfl) ?_
       refine (HR2.out y13 _ (HT.out.below hsy13 HT.out.size) (HO.out.below hsy13 HO.out.size) (parts_blk [_, _, _] kgb 3 rfl)).mono ?_
       rintro e y13x ⟨rfl, hb⟩
       have hSy13x : RL.Aft Z4 y13x := RL.Aft.lat hsy13 hb
       have kgb := kgb.below hb kgb.lt
       refine ⟨_, rfl, hK.out _ _ (RL.Aft.lat hsy13 hb) ?_⟩
       clear hK
       try go_frame
       refine' RL.td 10 (v := (.agg (Cv.bytesV ss))) 39 #[.agg (Cv.bytesV kk), .agg (Cv.bytesV sa), .agg (Cv.bytesV rr)] ?hc47 ?_
       case hc47 => (intro W hSW; exact (CMA.out W (HO.out.below hSW HO.out.size)).mono (fun e w9 h9 => ⟨h9.1, h9.2, RL.Aft.lat hSW h9.2⟩))
       try go_frame
       refine RL.sk 11 (fun y14 hly14 hsy14 K hK => ?_)
       have kgb := kgb.below hly14 kgb.lt
       refine RL.jl_ (v := .pointer (some ⟨y14.heap.size, 0, none⟩)) (w' := y14.alloc (.cells z32 22)) (by go_simp; try rfl) ?_
       obtain ⟨xb, hxb⟩ : ∃ n, y14.heap.size = n := exr
       have hba : Below y14.heap.size y14 (y14.alloc (.cells z32 22)) := (Below.refl _ _).alloc (Nat.le_refl _) _
       have kxb : Rg.Blk (y14.alloc (.cells z32 22)) xb 22 z32 := Rg.Blk.newAt hxb.symm _ _
       have gxb : Z4.heap.size ≤ xb := by rw [← hxb]; exact (show RL.Aft Z4 y14 from hsy14).size
       have kgb := kgb.below hba kgb.lt
       refine hK.out _ _ (RL.Aft.alloc hsy14 _) ?_
       try rw [hxb]
       have hSy14y : RL.Aft Z4 (y14.alloc (.cells z32 22)) := RL.Aft.alloc hsy14 _
       generalize hyy14 : y14.alloc (.cells z32 22) = y14y at *
       clear hxb hba hyy14
       clear hK
       try go_frame
       refine RL.norm #[true, true, true, true, true, true, true, true, true, true, true, true, false] (by kernel_rfl) ?_
       exact hrest gb xb _ ⟨by assumption, kxb, gxb⟩
     · have kgb := kgb.below hly13 kgb.lt
       refine RL.jl_ (v := .pointer (some ⟨y13.heap.size, 0, none⟩)) (w' := y13.alloc (.cells z32 22)) (by go_simp; try rfl) ?_
       obtain ⟨xb, hxb⟩ : ∃ n, y13.heap.size = n := exr
       have hba : Below y13.heap.size y13 (y13.alloc (.cells z32 22)) := (Below.refl _ _).alloc (Nat.le_refl _) _
       have kxb : Rg.Blk (y13.alloc (.cells z32 22)) xb 22 z32 := Rg.Blk.newAt hxb.symm _ _
       have gxb : Z4.heap.size ≤ xb := by rw [← hxb]; exact (show RL.Aft Z4 y13 from hsy13).size
       have kgb := kgb.below hba kgb.lt
       refine hK.out _ _ (RL.Aft.alloc hsy13 _) ?_
       try rw [hxb]
       have hSy13y : RL.Aft Z4 (y13.alloc (.cells z32 22)) := RL.Aft.alloc hsy13 _
       generalize hyy13 : y13.alloc (.cells z32 22) = y13y at *
       clear hxb hba hyy13
       clear hK
       try go_frame
       refine RL.sk 6 (fun y15 hly15 hsy15 K hK => ?_)
       have kgb := kgb.below hly15 kgb.lt
       have kxb := kxb.below hly15 kxb.lt
       refine RL.jc_ (F := 38) (args := #[.slice (some ⟨gb, 0, none⟩) 3 3]) (by go_simp; try rfl) ?_
       refine (HR2.out y15 _ (HT.out.below hsy15 HT.out.size) (HO.out.below hsy15 HO.out.size) (parts_blk [_, _, _] kgb 3 rfl)).mono ?_
       rintro e y15x ⟨rfl, hb⟩
       have hSy15x : RL.Aft Z4 y15x := RL.Aft.lat hsy15 hb
       have kgb := kgb.below hb kgb.lt
       have kxb := kxb.below hb kxb.lt
       refine ⟨_, rfl, hK.out _ _ (RL.Aft.lat hsy15 hb) ?_⟩
       clear hK
       try go_frame
       refine' RL.td 10 (v := (.agg (Cv.bytesV ss))) 39 #[.agg (Cv.bytesV kk), .agg (Cv.bytesV sa), .agg (Cv.bytesV rr)] ?hc48 ?_
       case hc48 => (intro W hSW; exact (CMA.out W (HO.out.below hSW HO.out.size)).mono (fun e w9 h9 => ⟨h9.1, h9.2, RL.Aft.lat hSW h9.2⟩))
       try go_frame
       refine RL.norm #[true, true, true, true, true, true, true, true, true, true, true, true, false] (by kernel_rfl) ?_
       exact hrest gb xb _ ⟨by assumption, kxb, gxb⟩
   · refine RL.jl_ (v := .pointer (some ⟨y12.heap.size, 0, none⟩)) (w' := y12.alloc (.cells z32 22)) (by go_simp; try rfl) ?_
     obtain ⟨xb, hxb⟩ : ∃ n, y12.heap.size = n := exr
     have hba : Below y12.heap.size y12 (y12.alloc (.cells z32 22)) := (Below.refl _ _).alloc (Nat.le_refl _) _
     have kxb : Rg.Blk (y12.alloc (.cells z32 22)) xb 22 z32 := Rg.Blk.newAt hxb.symm _ _
     have gxb : Z4.heap.size ≤ xb := by rw [← hxb]; exact (show RL.Aft Z4 y12 from hsy12).size
     refine hK.out _ _ (RL.Aft.alloc hsy12 _) ?_
     try rw [hxb]
     have hSy12y : RL.Aft Z4 (y12.alloc (.cells z32 22)) := RL.Aft.alloc hsy12 _
     generalize hyy12 : y12.alloc (.cells z32 22) = y12y at *
     clear hxb hba hyy12
     clear hK
     try go_frame
     refine RL.sk 5 (fun y16 hly16 hsy16 K hK => ?_)
     have kxb := kxb.below hly16 kxb.lt
     refine RL.jl_ (v := .slice (some ⟨y16.heap.size, 0, none⟩) 3 3) (w' := y16.alloc (.cells #[.string ⟨rp.toArray⟩, .string ⟨ke.toArray⟩, .string (bs m)] 9)) (by go_simp; try rfl) ?_
     obtain ⟨gb, hgb⟩ : ∃ n, y16.heap.size = n := exr
     have hba : Below y16.heap.size y16 (y16.alloc (.cells #[.string ⟨rp.toArray⟩, .string ⟨ke.toArray⟩, .string (bs m)] 9)) := (Below.refl _ _).alloc (Nat.le_refl _) _
     have kgb : Rg.Blk (y16.alloc (.cells #[.string ⟨rp.toArray⟩, .string ⟨ke.toArray⟩, .string (bs m)] 9)) gb 9 #[.string ⟨rp.toArray⟩, .string ⟨ke.toArray⟩, .string (bs m)] := Rg.Blk.newAt hgb.symm _ _
     have ggb : Z4.heap.size ≤ gb := by rw [← hgb]; exact (show RL.Aft Z4 y16 from hsy16).size
     have kxb := kxb.below hba kxb.lt
     refine hK.out _ _ (RL.Aft.alloc hsy16 _) ?_
     try rw [hgb]
     have hSy16y : RL.Aft Z4 (y16.alloc (.cells #[.string ⟨rp.toArray⟩, .string ⟨ke.toArray⟩, .string (bs m)] 9)) := RL.Aft.alloc hsy16 _
     generalize hyy16 : y16.alloc (.cells #[.string ⟨rp.toArray⟩, .string ⟨ke.toArray⟩, .string (bs m)] 9) = y16y at *
     clear hgb hba hyy16
     clear hK
     try go_frame
     refine RL.sk 6 (fun y17 hly17 hsy17 K hK => ?_)
     have kxb := kxb.below hly17 kxb.lt
     have kgb := kgb.below hly17 kgb.lt
     refine RL.jc_ (F := 38) (args := #[.slice (some ⟨gb, 0, none⟩) 3 3]) (by go_simp; try rfl) ?_
     refine (HR2.out y17 _ (HT.out.below hsy17 HT.out.size) (HO.out.below hsy17 HO.out.size) (parts_blk [_, _, _] kgb 3 rfl)).mono ?_
     rintro e y17x ⟨rfl, hb⟩
     have hSy17x : RL.Aft Z4 y17x := RL.Aft.lat hsy17 hb
     have kxb := kxb.below hb kxb.lt
     have kgb := kgb.below hb kgb.lt
     refine ⟨_, rfl, hK.out _ _ (RL.Aft.lat hsy17 hb) ?_⟩
     clear hK
     try go_frame
     refine' RL.td 10 (v := (.agg (Cv.bytesV ss))) 39 #[.agg (Cv.bytesV kk), .agg (Cv.bytesV sa), .agg (Cv.bytesV rr)] ?hc49 ?_
     case hc49 => (intro W hSW; exact (CMA.out W (HO.out.below hSW HO.out.size)).mono (fun e w9 h9 => ⟨h9.1, h9.2, RL.Aft.lat hSW h9.2⟩))
     try go_frame
     refine RL.norm #[true, true, true, true, true, true, true, true, true, true, true, true, false] (by kernel_rfl) ?_
     exact hrest gb xb _ ⟨by assumption, kxb, gxb⟩
  case hrrq11 =>
   rintro gb xb Z0 ⟨ha0, hZ, gxb⟩
   have Fxb := ϕ gxb
   refine RL.sk 12 (fun va hlva hsva K hK => ?_)
   have hZ := hZ.below hlva hZ.lt
   refine qg_ 22 _ _ rfl xb (Cv.bytesV ss) _ 22 rfl (by rfl) hZ (by rw [Cv.qa_, HSS.out]; kernel_rfl) (by rw [Cv.qa_, HSS.out]; rfl) (Cv.qn_ _) ?_
   intro Y9 hY hgY
   refine hK.out _ _ (Below.grown hsva hgY (Below.size hsva) (fun k hk => by cases hk; exact Fxb.out)) ?_
   clear hK
   try go_frame
   refine RL.done (by kernel_rfl) (fun Z5 hlZ5 hsZ5 => ?_)
   have Hxb := ϕ (show Rg.Blk Z5 xb 22 (Cv.bytesV ss) from hY.below hlZ5 hY.lt)
   clear hZ hY hgY hlva hsva
   have HA := ϕ (show RL.Aft Z4 Z5 from hsZ5)
   have Hrb := ϕ (qc_ HA.out Hrb.out)
   have Hhb := ϕ (qc_ HA.out Hhb.out)
   have HB := ϕ (HB.out.trans (Below.mono HA.out HB.out.size))
   clear HA hsZ5 hlZ5
   go_upto_region 7 with fail
   obtain ⟨ob, hob⟩ : ∃ n, Z5.heap.size = n := exr
   obtain ⟨Z6, hZ6⟩ : ∃ Z, (Z5.alloc (.cells z64 29)) = Z := exr
   have Hob := ϕ (show Rg.Blk Z6 ob 29 (Cv.bytesV (List.replicate 64 0)) from by rw [z64b, ← hZ6]; exact Rg.Blk.newAt hob.symm _ _)
   have GO := ϕ (show w.heap.size ≤ ob from hob ▸ HB.out.size)
   have NN := ϕ (show ¬ rb = ob ∧ ¬ hb = ob ∧ ¬ xb = ob from by have h1 := Hrb.out.lt; have h2 := Hhb.out.lt; have h3 := Hxb.out.lt; omega)
   have hba : Below Z5.heap.size Z5 Z6 := by rw [← hZ6]; exact (Below.refl _ _).alloc (Nat.le_refl _) _
   have Hrb := ϕ (Hrb.out.below hba Hrb.out.lt)
   have Hhb := ϕ (Hhb.out.below hba Hhb.out.lt)
   have Hxb := ϕ (Hxb.out.below hba Hxb.out.lt)
   have HB := tm HB hba
   rw [hZ6]
   try rw [hob]
   clear hob HT HO Hcb Htb Hkb Hmb hba hZ6
   refine RL.start (fun W => Sp.Upd Z6 W [ob]) (by kernel_rfl) (Sp.Upd.trans (Sp.Upd.refl _ _) (Sp.Upd.of_below (Below.drew (Below.refl _ _))) (by simp)) ?_
   refine RL.tu 0 ?_; go_frame
   refine RL.tu 1 ?_; go_frame
   refine RL.sk 2 (fun va hlva hsva K hK => ?_)
   have hO := (Hob.out.below (Below.drew (Below.refl _ _)) Hob.out.lt).below hlva (by have := Hob.out.lt; simpa using this)
   have hS := qk_ hsva Hhb.out (by simp; exact NN.out.2.1)
   refine copy_op _ _ 28 28 5 rfl (off := 0) rfl rfl underlying28 (by kernel_rfl) hO (src := rp) (Cv.Bytes.of_blk hS) (by rw [HAL.out]; rfl) (by rw [HAL.out]; simp [HAL.out]) ?_
   intro Y9 v9 hY hgY
   refine hK.out _ _ (Sp.Upd.trans hsva (Sp.Upd.of_grown1 hgY) (fun q hq => .inl hq)) ?_
   clear hK
   try go_frame
   refine RL.done (by kernel_rfl) (fun Z7 hlZ7 hsZ7 => ?_)
   have Hob := ϕ (show Rg.Blk Z7 ob 29 (Cv.bytesV (rp ++ List.replicate 32 0)) from EQ1.out ▸ hY.below hlZ7 hY.lt)
   have Hrb := ϕ (qk_ hsZ7 Hrb.out (by simp; exact NN.out.1))
   have Hxb := ϕ (qk_ hsZ7 Hxb.out (by simp; exact NN.out.2.2))
   have HB := ϕ (qm_ HB.out hsZ7 (fun k hk => by simp at hk; rw [hk]; exact GO.out) HB.out.size)
   clear hO hS hY hgY hlva hsva hsZ7 hlZ7
   go_upto_region 8 with fail
   refine RL.start (fun W => Sp.Upd Z7 W [ob]) (by kernel_rfl) (Sp.Upd.trans (Sp.Upd.refl _ _) (Sp.Upd.of_below (Below.drew (Below.refl _ _))) (by simp)) ?_
   refine RL.tu 0 ?_; go_frame
   refine RL.tu 1 ?_; go_frame
   refine RL.sk 2 (fun va hlva hsva K hK => ?_)
   have hO := (Hob.out.below (Below.drew (Below.refl _ _)) Hob.out.lt).below hlva (by have := Hob.out.lt; simpa using this)
   have hS := qk_ hsva Hxb.out (by simp; exact NN.out.2.2)
   refine copy_op _ _ 28 28 5 rfl (off := 32) rfl rfl underlying28 (by kernel_rfl) hO (src := ss) (Cv.Bytes.of_blk hS) (by rw [HSS.out]; rfl) (by rw [HSS.out]; simp [HAL.out]) ?_
   intro Y9 v9 hY hgY
   refine hK.out _ _ (Sp.Upd.trans hsva (Sp.Upd.of_grown1 hgY) (fun q hq => .inl hq)) ?_
   clear hK
   try go_frame
   refine RL.done (by kernel_rfl) (fun Z8 hlZ8 hsZ8 => ?_)
   have Hob := ϕ (show Rg.Blk Z8 ob 29 (Cv.bytesV (rp ++ ss)) from EQ2.out ▸ hY.below hlZ8 hY.lt)
   have Hrb := ϕ (qk_ hsZ8 Hrb.out (by simp; exact NN.out.1))
   have HB := ϕ (qm_ HB.out hsZ8 (fun k hk => by simp at hk; rw [hk]; exact GO.out) HB.out.size)
   clear hO hS hY hgY hlva hsva hsZ8 hlZ8
   go_wp2_with (first
    | ((with_reducible refine qd_ ?_); refine Cv.qi_ rfl 29 _ rfl ob 0 rfl (Cv.bytesV (rp ++ ss)) _ (fun j v hv => by rw [Nat.zero_add]; exact Hob.out.cell j hv) underlying29 rfl (by rw [Cv.qa_, HGL.out]; kernel_rfl) ?_)
    | ((with_reducible refine qd_ ?_); refine Cv.qs_ rfl 29 _ _ rfl rb (Cv.bytesV (rp ++ ss)) z64 29 rfl rfl Hrb.out (by rw [Cv.qa_, HGL.out]; kernel_rfl) (by rw [Cv.qa_, HGL.out]; rfl) (Cv.qn_ _) ?_; intro V hV hgV; have HZ2 := ϕ hV; have HB2 := ϕ (HB.out.grown hgV HB.out.size (fun j e => by cases e; exact GR.out)); clear hV hgV))
   rw [HRES.out]
   refine bodyPost_ret (v := .agg (Cv.bytesV (rp ++ ss)))
    (results_cell_row results13 _ _ rb 29 _ (0, 0) _ rfl HZ2.out underlying29 rfl (by rw [Cv.qa_, HGL.out]; kernel_rfl)) rfl ?_
   exact ⟨rfl, HB2.out⟩
theorem wpList_wanted {P : Program} {ops : Array Oper} {rest : List Oper} {o : Oper} {a : Act} {w : World} {Q : Exit → Act → World → Prop} (hw : Region.wanted o (yielded ops a.tmps) = true)
 (h : ∀ K : Act → World → Prop, (∀ a w, wpList P ops Q rest a w → K a w) → o.wp P a w K Q) : wpList P ops Q (o :: rest) a w :=
 wpList_step fun K hK => by rw [if_pos hw]; exact h K hK
theorem load_blk_g {P : Program} {ops : Array Oper} {rest : List Oper} {o : Oper} {a : Act} {w : World} {Q : Exit → Act → World → Prop} (hw : Region.wanted o (yielded ops a.tmps) = true) (ty : TypeId) (x : Operand) (ho : o.op = .load ty x)
 (b : Nat) (cs : Array Value) (T : TypeId) (hx : a.eval x = .pointer (some ⟨b, 0, none⟩)) (hB : Rg.Blk w b T cs) {d : TypeDesc} (hu : P.underlying ty = some d) (hd : (match d with | .struct _ | .array _ _ => true | _ => false) = true) (hi : (P.info? ty).map (·.size) = some cs.size)
 (h : wpList P ops Q rest (a.put o.dst (.agg cs)) w) : wpList P ops Q (o :: rest) a w :=
 wpList_wanted hw fun _ hK => by
  unfold Oper.wp
  rw [RT.qy_ ty x ho b hx T cs hB hu hd hi]
  exact hK _ _ h
theorem wpList_unwanted {P : Program} {ops : Array Oper} {rest : List Oper} {o : Oper} {a : Act} {w : World} {Q : Exit → Act → World → Prop} (hw : Region.wanted o (yielded ops a.tmps) = false)
 (h : wpList P ops Q rest (a.put o.dst undef) w) : wpList P ops Q (o :: rest) a w :=
 wpList_step fun K hK => by rw [if_neg (by rw [hw]; decide)]; exact hK _ _ h
theorem dec_beq (a b : List UInt8) : decide (a = b) = (a == b) := by
 by_cases h : a = b
 · rw [decide_eq_true h, beq_iff_eq.2 h]
 · rw [decide_eq_false h, beq_eq_false_iff_ne.2 h]
theorem run_arr {P : Program} {o : Oper} {a : Act} {w : World} (arr e : TypeId) (n : Nat) (x : Operand) (ho : o.op = .sliceToArrayPointer arr x) (b off len cap : Nat) (hx : a.eval x = .slice (some ⟨b, off, none⟩) len cap) (hu : P.underlying arr = some (.array n e)) (hl : n ≤ len) : (execOp a.eval o).run P w = .ok (.value (.pointer (some ⟨b, off, none⟩))) w := by
 unfold execOp
 simp only [ho, hx]
 unfold Instr.arrayAt
 simp only [Sem.run_bind, run_underlying hu w, Result.andThen_ok, if_neg (show ¬ len < n by omega), Sem.run_pure]
theorem front_of {w : World} {b T : Nat} {r s : List UInt8} (h : Rg.Blk w b T (Cv.bytesV (r ++ s))) (hr : r.length = 32) : Cv.Bytes w b 0 r := by
 have := bytes_front h 32
 rwa [List.take_append_of_le_length (by omega), List.take_of_length_le (by omega)] at this
theorem back_of {w : World} {b T : Nat} {r s : List UInt8} (h : Rg.Blk w b T (Cv.bytesV (r ++ s))) (hr : r.length = 32) : Cv.Bytes w b 32 s := by
 have := bytes_back h 32
 rwa [← hr, List.drop_left, hr] at this
theorem ver_no (w : World) (key m r s : List UInt8) (hk : key.length = 32) (hr : r.length = 32) (hs : s.length = 32) (hd : dec key = none) (hT : Sha.Tables w) (hO : Ord w) : Calls prog 55 #[.agg (Cv.bytesV key), .string (bs m), .agg (Cv.bytesV (r ++ s))] w fun e w' => e = .returned (.bool (ver key m r s)) ∧ Below w.heap.size w w' := by
 obtain ⟨cd, ct, c1, c2, c3, c4, ecd, ect, hrq, cbeg⟩ := begin_e
 have CBE := ϕ cbeg
 obtain ⟨B0, hB0⟩ : ∃ R : E4, (⟨c1, c2, c3, c4⟩ : E4) = R := exr
 have hrB : Rq4 base B0 := hB0 ▸ hrq
 have HV := ϕ (ver_none (m := m) (r := r) (s := s) hd)
 obtain ⟨R0, ok, hok, crd⟩ := read_q (cd := cd) (ct := ct) (c1 := c1) (c2 := c2) (c3 := c3) (c4 := c4) ecd key hk
 obtain rfl : ok = false := by
  rcases hok with ⟨h1, p, h2, _⟩ | ⟨h1, h2⟩
  · rw [hd] at h2; exact none_no h2
  · exact h1
 have CRD := ϕ crd
 have HT := ϕ hT
 have HO := ϕ hO
 have HKL := ϕ hk
 have HRL := ϕ hr
 have HSL := ϕ hs
 clear hok crd hk hr hs hd hT hO ecd ect hrq cbeg hB0 hrB
 go_enter func55, ntmps55
 have tb0 := trivial
 go_upto_region 1 with (first
  | (have _t := tb0; (with_reducible refine qd_ ?_); refine Rg.qh_ rfl 22 _ rfl (Cv.bytesV key) rfl ?_; intro X1 hX hbX hnX; have J0 := ϕ hX; have K0 := ϕ hbX; clear hX hbX hnX _t tb0; have tb1 := trivial)
  | (have _t := tb1; (with_reducible refine qd_ ?_); refine Rg.qh_ rfl 29 _ rfl (Cv.bytesV (r ++ s)) rfl ?_; intro X2 hX hbX hnX; have J1 := ϕ hX; have K1 := ϕ hbX; clear hX hbX hnX _t tb1; have tb2 := trivial))
 clear tb2
 obtain ⟨kb, hkb⟩ : ∃ n, w.heap.size = n := exr
 obtain ⟨gb, hgb⟩ : ∃ n, X1.heap.size = n := exr
 have Hkb := ϕ (show Rg.Blk X2 kb 22 (Cv.bytesV key) from (hkb ▸ J0.out).below K1.out (hkb ▸ J0.out.lt))
 have Hgb := ϕ (show Rg.Blk X2 gb 29 (Cv.bytesV (r ++ s)) from hgb ▸ J1.out)
 have HB := ϕ (show Below w.heap.size w X2 from K0.out.trans (K1.out.mono K0.out.size))
 have HW := ϕ hkb
 try rw [hkb]
 try rw [hgb]
 clear J0 J1 K0 K1 hkb hgb
 go_upto_region 2 with (go_at_call 33; refine (CBE.out _).mono ?_; rintro e w1 ⟨⟨cb, hcb, rfl, hcv⟩, hb1⟩; have Hcb := ϕ (show Rg.Blk w1 cb 84 (u64s (els [cd, ct, c1, c2, c3, c4])) from hcv); have Hkb := ϕ (Hkb.out.below hb1 Hkb.out.lt); have Hgb := ϕ (Hgb.out.below hb1 Hgb.out.lt); have HB := tm HB hb1; clear hb1 hcv hcb)
 go_upto_region 3 with (first
  | ((with_reducible refine qd_ ?_); refine Cv.qi_ rfl 22 _ rfl kb 0 rfl (Cv.bytesV key) _ (fun j v hv => by rw [Nat.zero_add]; exact Rg.Blk.cell Hkb.out j hv) underlying22 rfl (by rw [Cv.qa_, HKL.out]; kernel_rfl) ?_)
  | (go_at_call 96; refine (CRD.out cb _ Hcb.out).mono ?_; rintro e w2 ⟨rfl, hb1⟩; have Hgb := ϕ (Hgb.out.below hb1 Hgb.out.lt); have Hcb := bl Hcb hb1; have HB := tm HB hb1; clear hb1)
  | (refine Rg.qf_ rfl 78 _ _ rfl (u64s (els [R0.x, R0.y, R0.z, R0.t])) _ 78 rfl rfl (by kernel_rfl) rfl (qp_ _) ?_; intro X3 hX hbX; have Hpb := ϕ hX; have Hgb := ϕ (Hgb.out.below hbX Hgb.out.lt); have Hcb := bl Hcb hbX; have HB := tm HB hbX; clear hX hbX))
 obtain ⟨pb, hpb⟩ : ∃ n, w2.heap.size = n := exr
 try rw [hpb]
 clear hpb
 go_upto_region 4 with (first
  | ((with_reducible refine qd_ ?_); refine Cv.ju_ rfl 22 5 32 _ rfl _ _ _ _ rfl underlying22 (by decide) ?_; skip)
  | ((with_reducible refine qd_ ?_); refine Cv.qi_ rfl 22 _ rfl gb 32 rfl (Cv.bytesV s) _ (Cv.Bytes.cells (back_of Hgb.out HRL.out)) underlying22 rfl (by rw [Cv.qa_, HSL.out]; kernel_rfl) ?_)
  | (refine Rg.qf_ rfl 22 _ _ rfl (Cv.bytesV s) _ 22 rfl rfl (by rw [Cv.qa_, HSL.out]; kernel_rfl) (by rw [Cv.qa_, HSL.out]; rfl) (Cv.qn_ _) ?_; intro X4 hX hbX; have Hxb := ϕ hX; have Hcb := bl Hcb hbX; have HB := tm HB hbX; clear hX hbX))
 obtain ⟨xb, hxb⟩ : ∃ n, X3.heap.size = n := exr
 try rw [hxb]
 clear hxb
 go_wp2_with (first
  | (refine wpList_unwanted (by rfl) ?_; skip))
 go_ret
 exact ⟨by rw [HV.out]; rfl, HW.out ▸ HB.out⟩
theorem ver_yes (w : World) (key m r s : List UInt8) (hk : key.length = 32) (hm : m.length ≤ 10000) (hr : r.length = 32) (hs : s.length = 32) {A : Pt} (hd : dec key = some A) (hT : Sha.Tables w) (hO : Ord w) : Calls prog 55 #[.agg (Cv.bytesV key), .string (bs m), .agg (Cv.bytesV (r ++ s))] w fun e w' => e = .returned (.bool (ver key m r s)) ∧ Below w.heap.size w w' := by
 obtain ⟨cd, ct, c1, c2, c3, c4, ecd, ect, hrq, cbeg⟩ := begin_e
 have CBE := ϕ cbeg
 obtain ⟨B0, hB0⟩ : ∃ R : E4, (⟨c1, c2, c3, c4⟩ : E4) = R := exr
 have hrB : Rq4 base B0 := hB0 ▸ hrq
 obtain ⟨R0, ok, hok, crd⟩ := read_q (cd := cd) (ct := ct) (c1 := c1) (c2 := c2) (c3 := c3) (c4 := c4) ecd key hk
 have hor : ok = true ∧ Rq4 A R0 := by
  rcases hok with ⟨h1, p, h2, h3⟩ | ⟨h1, h2⟩
  · rw [hd] at h2
    exact ⟨h1, some_eq (P := fun q => Rq4 q R0) h2.symm h3⟩
  · rw [hd] at h2; exact none_no h2.symm
 obtain ⟨rfl, hRA⟩ := hor
 obtain ⟨nx, nt, hN, cne⟩ := neg_q hRA
 obtain ⟨N0, hN0⟩ : ∃ R : E4, (⟨nx, R0.y, R0.z, nt⟩ : E4) = R := exr
 have hN4 : Rq4 A.neg N0 := hN0 ▸ hN
 have CNE := ϕ (show ∀ W : World, Calls prog 98 #[.agg (u64s (els [R0.x, R0.y, R0.z, R0.t]))] W fun e w' => e = .returned (.agg (u64s (els [N0.x, N0.y, N0.z, N0.t]))) ∧ Below W.heap.size W w' from hN0 ▸ cne)
 obtain ⟨kk, hkk⟩ : ∃ l, toLe 32 (red (r ++ key ++ m)) = l := exr
 have hkkl : kk.length = 32 := by rw [← hkk, qw_]
 have hkn : leN kk = red (r ++ key ++ m) := by rw [← hkk]; exact leN_l (red_lt _)
 obtain ⟨R1, hR1, cm1⟩ := mult_q (cd := cd) (ct := ct) (c1 := c1) (c2 := c2) (c3 := c3) (c4 := c4) ect hrB s hs
 obtain ⟨R2, hR2, cm2⟩ := mult_q (cd := cd) (ct := ct) (c1 := c1) (c2 := c2) (c3 := c3) (c4 := c4) ect hN4 kk hkkl
 obtain ⟨D0, hD0, cad⟩ := adds (cd := cd) (ct := ct) (c1 := c1) (c2 := c2) (c3 := c3) (c4 := c4) ect hR1 hR2
 have cby := bytes_q hD0
 obtain ⟨be, hbe⟩ : ∃ e, enc ((Pt.mul (leN s) base).add (Pt.mul (leN kk) A.neg)) = e := exr
 rw [hbe] at cby
 rw [hkn] at hbe
 have HBL := ϕ (show be.length = 32 from by rw [← hbe]; exact enc_len _)
 obtain ⟨eb, heb⟩ : ∃ b, (be == r) = b := exr
 obtain ⟨fb, hfb⟩ : ∃ b, decide (leN s < Ed.L) = b := exr
 have HVV := ϕ (show ver key m r s = (fb && eb) from by
  rw [ver_some hd, hbe, hfb, dec_beq, heb])
 have HR2 := ϕ (fun W v (hT : Sha.Tables W) (hO : Ord W) (hv : Jo.Parts W v [⟨r.toArray⟩, ⟨key.toArray⟩, bs m]) => show Calls prog 38 #[v] W fun e w' => e = .returned (.agg (Cv.bytesV kk)) ∧ Below W.heap.size W w' from by
  have h := reduce_l W v _ (r ++ key ++ m) (by rw [Jo.joined_list]; simp [bs_list]) (by rw [List.length_append, List.length_append]; omega) (by simp) hT hO hv
  rw [← hkk]
  exact h)
 have CFI := ϕ (fun W (hO : Ord W) => show Calls prog 97 #[.agg (Cv.bytesV s)] W fun e w' => e = .returned (.bool fb) ∧ Below W.heap.size W w' from hfb ▸ Fits_any W s hs hO)
 have HEQ := ϕ (show ∀ W : World, (Op.equalIn 10000 22 (.agg (Cv.bytesV be)) (.agg (Cv.bytesV r))).run prog W = .ok eb W from fun W => heb ▸ Cv.jm_ (P := prog) W 22 5 32 underlying22 underlying5 (by kernel_rfl) be r HBL.out hr)
 have CRD := ϕ crd
 have CM1 := ϕ (hB0 ▸ cm1)
 have CM2 := ϕ cm2
 have CAD := ϕ cad
 have CBY := ϕ cby
 have HKK := ϕ hkkl
 have HT := ϕ hT
 have HO := ϕ hO
 have HKL := ϕ hk
 have HRL := ϕ hr
 have HSL := ϕ hs
 rw [HVV.out]
 clear hok crd hk hr hs hd hT hO ecd ect hrq cbeg hB0 hrB hRA hN cne hN0 hN4 hkk hkkl hkn hR1 cm1 hR2 cm2 hD0 cad cby hbe heb hfb hm
 go_enter func55, ntmps55
 have tb0 := trivial
 go_upto_region 1 with (first
  | (have _t := tb0; (with_reducible refine qd_ ?_); refine Rg.qh_ rfl 22 _ rfl (Cv.bytesV key) rfl ?_; intro X1 hX hbX hnX; have J0 := ϕ hX; have K0 := ϕ hbX; clear hX hbX hnX _t tb0; have tb1 := trivial)
  | (have _t := tb1; (with_reducible refine qd_ ?_); refine Rg.qh_ rfl 29 _ rfl (Cv.bytesV (r ++ s)) rfl ?_; intro X2 hX hbX hnX; have J1 := ϕ hX; have K1 := ϕ hbX; clear hX hbX hnX _t tb1; have tb2 := trivial))
 clear tb2
 obtain ⟨kb, hkb⟩ : ∃ n, w.heap.size = n := exr
 obtain ⟨gb, hgb⟩ : ∃ n, X1.heap.size = n := exr
 have Hkb := ϕ (show Rg.Blk X2 kb 22 (Cv.bytesV key) from (hkb ▸ J0.out).below K1.out (hkb ▸ J0.out.lt))
 have Hgb := ϕ (show Rg.Blk X2 gb 29 (Cv.bytesV (r ++ s)) from hgb ▸ J1.out)
 have HB := ϕ (show Below w.heap.size w X2 from K0.out.trans (K1.out.mono K0.out.size))
 have HT := ϕ (HT.out.below HB.out HT.out.size)
 have HO := ϕ (HO.out.below HB.out HO.out.size)
 have HW := ϕ hkb
 try rw [hkb]
 try rw [hgb]
 clear J0 J1 K0 K1 hkb hgb
 go_upto_region 2 with (go_at_call 33; refine (CBE.out _).mono ?_; rintro e w1 ⟨⟨cb, hcb, rfl, hcv⟩, hb1⟩; have Hcb := ϕ (show Rg.Blk w1 cb 84 (u64s (els [cd, ct, c1, c2, c3, c4])) from hcv); have Hkb := ϕ (Hkb.out.below hb1 Hkb.out.lt); have Hgb := ϕ (Hgb.out.below hb1 Hgb.out.lt); have HT := ϕ (HT.out.below hb1 HT.out.size); have HO := ϕ (HO.out.below hb1 HO.out.size); have HB := tm HB hb1; clear hb1 hcv hcb)
 go_upto_region 3 with (first
  | ((with_reducible refine qd_ ?_); refine Cv.qi_ rfl 22 _ rfl kb 0 rfl (Cv.bytesV key) _ (fun j v hv => by rw [Nat.zero_add]; exact Rg.Blk.cell Hkb.out j hv) underlying22 rfl (by rw [Cv.qa_, HKL.out]; kernel_rfl) ?_)
  | (go_at_call 96; refine (CRD.out cb _ Hcb.out).mono ?_; rintro e w2 ⟨rfl, hb1⟩; have Hkb := ϕ (Hkb.out.below hb1 Hkb.out.lt); have Hgb := ϕ (Hgb.out.below hb1 Hgb.out.lt); have Hcb := bl Hcb hb1; have HT := ϕ (HT.out.below hb1 HT.out.size); have HO := ϕ (HO.out.below hb1 HO.out.size); have HB := tm HB hb1; clear hb1)
  | (refine Rg.qf_ rfl 78 _ _ rfl (u64s (els [R0.x, R0.y, R0.z, R0.t])) _ 78 rfl rfl (by kernel_rfl) rfl (qp_ _) ?_; intro X3 hX hbX; have Hpb := ϕ hX; have Hkb := ϕ (Hkb.out.below hbX Hkb.out.lt); have Hgb := ϕ (Hgb.out.below hbX Hgb.out.lt); have Hcb := bl Hcb hbX; have HT := ϕ (HT.out.below hbX HT.out.size); have HO := ϕ (HO.out.below hbX HO.out.size); have HB := tm HB hbX; clear hX hbX))
 obtain ⟨pb, hpb⟩ : ∃ n, w2.heap.size = n := exr
 have Hpb := ϕ (show Rg.Blk X3 pb 78 (u64s (els [R0.x, R0.y, R0.z, R0.t])) from hpb ▸ Hpb.out)
 try rw [hpb]
 clear hpb
 go_upto_region 4 with (first
  | ((with_reducible refine qd_ ?_); refine Cv.ju_ rfl 22 5 32 _ rfl _ _ _ _ rfl underlying22 (by decide) ?_; skip)
  | ((with_reducible refine qd_ ?_); refine Cv.qi_ rfl 22 _ rfl gb 32 rfl (Cv.bytesV s) _ (Cv.Bytes.cells (back_of Hgb.out HRL.out)) underlying22 rfl (by rw [Cv.qa_, HSL.out]; kernel_rfl) ?_)
  | (refine Rg.qf_ rfl 22 _ _ rfl (Cv.bytesV s) _ 22 rfl rfl (by rw [Cv.qa_, HSL.out]; kernel_rfl) (by rw [Cv.qa_, HSL.out]; rfl) (Cv.qn_ _) ?_; intro X4 hX hbX; have Hxb := ϕ hX; have Hkb := ϕ (Hkb.out.below hbX Hkb.out.lt); have Hgb := ϕ (Hgb.out.below hbX Hgb.out.lt); have Hcb := bl Hcb hbX; have Hpb := ϕ (Hpb.out.below hbX Hpb.out.lt); have HT := ϕ (HT.out.below hbX HT.out.size); have HO := ϕ (HO.out.below hbX HO.out.size); have HB := tm HB hbX; clear hX hbX))
 obtain ⟨xb, hxb⟩ : ∃ n, X3.heap.size = n := exr
 have Hxb := ϕ (show Rg.Blk X4 xb 22 (Cv.bytesV s) from hxb ▸ Hxb.out)
 try rw [hxb]
 clear hxb
 cases fb with
 | false =>
  go_wp2_with (first
   | (refine load_blk_g (by rfl) 22 _ rfl xb (Cv.bytesV s) 22 rfl Hxb.out underlying22 rfl (by rw [Cv.qa_, HSL.out]; kernel_rfl) ?_; skip)
   | (go_at_call 97; refine (CFI.out _ HO.out).mono ?_; rintro e w5 ⟨rfl, hb1⟩; have Hcb := bl Hcb hb1; have HB := tm HB hb1; clear hb1))
  go_ret
  exact ⟨rfl, HW.out ▸ HB.out⟩
 | true =>
  go_upto_region 6 with (first
   | (refine load_blk_g (by rfl) 22 _ rfl xb (Cv.bytesV s) 22 rfl Hxb.out underlying22 rfl (by rw [Cv.qa_, HSL.out]; kernel_rfl) ?_; skip)
   | (go_at_call 97; refine (CFI.out _ HO.out).mono ?_; rintro e w5 ⟨rfl, hb1⟩; have Hkb := ϕ (Hkb.out.below hb1 Hkb.out.lt); have Hgb := ϕ (Hgb.out.below hb1 Hgb.out.lt); have Hcb := bl Hcb hb1; have Hpb := ϕ (Hpb.out.below hb1 Hpb.out.lt); have Hxb := ϕ (Hxb.out.below hb1 Hxb.out.lt); have HT := ϕ (HT.out.below hb1 HT.out.size); have HO := ϕ (HO.out.below hb1 HO.out.size); have HB := tm HB hb1; clear hb1))
  refine RL.start (RL.Aft w5) (by kernel_rfl) (RL.Aft.drew (RL.Aft.refl w5)) ?_
  refine RL.tu 0 ?_; go_frame
  refine' RL.tv 1 ?hk16 ?_
  case hk16 => (intro W hSW; have x1 := Cv.zc_ (P := prog) W 28 5 9 underlying28 underlying5 underlying9 gb 0 32 64 r HRL.out (front_of (qc_ hSW Hgb.out) HRL.out); go_simp; try with_reducible rfl)
  try go_frame
  refine RL.tu 2 ?_; go_frame
  refine' RL.tv 3 ?hk18 ?_
  case hk18 => (intro W hSW; have x1 := Cv.zc_ (P := prog) W 28 5 9 underlying28 underlying5 underlying9 kb 0 32 32 key HKL.out (Cv.Bytes.of_blk (qc_ hSW Hkb.out)); go_simp; try with_reducible rfl)
  try go_frame
  refine RL.tu 4 ?_; go_frame
  refine' RL.rest_of (T := ?TTq1) (fun sg yb W => RL.Aft w5 W ∧ Rg.Blk W yb 22 z32 ∧ w5.heap.size ≤ yb) ?hmainq1 ?hrrq1
  case hmainq1 =>
   intro hrest
   refine RL.step2 (i := 5) (j := 7) rfl rfl (by kernel_rfl) (by rfl) (by rfl) (fun y2 hly2 hsy2 K hK => ?_) (fun y2 hly2 hsy2 K hK => ?_)
   · refine RL.jl_ (v := .slice (some ⟨y2.heap.size, 0, none⟩) 3 3) (w' := y2.alloc (.cells #[.string ⟨r.toArray⟩, .string ⟨key.toArray⟩, .string (bs m)] 9)) (by go_simp; try rfl) ?_
     obtain ⟨sg, hsg⟩ : ∃ n, y2.heap.size = n := exr
     have hba : Below y2.heap.size y2 (y2.alloc (.cells #[.string ⟨r.toArray⟩, .string ⟨key.toArray⟩, .string (bs m)] 9)) := (Below.refl _ _).alloc (Nat.le_refl _) _
     have ksg : Rg.Blk (y2.alloc (.cells #[.string ⟨r.toArray⟩, .string ⟨key.toArray⟩, .string (bs m)] 9)) sg 9 #[.string ⟨r.toArray⟩, .string ⟨key.toArray⟩, .string (bs m)] := Rg.Blk.newAt hsg.symm _ _
     have gsg : w5.heap.size ≤ sg := by rw [← hsg]; exact (show RL.Aft w5 y2 from hsy2).size
     refine hK.out _ _ (RL.Aft.alloc hsy2 _) ?_
     try rw [hsg]
     have hSy2y : RL.Aft w5 (y2.alloc (.cells #[.string ⟨r.toArray⟩, .string ⟨key.toArray⟩, .string (bs m)] 9)) := RL.Aft.alloc hsy2 _
     generalize hyy2 : y2.alloc (.cells #[.string ⟨r.toArray⟩, .string ⟨key.toArray⟩, .string (bs m)] 9) = y2y at *
     clear hsg hba hyy2
     clear hK
     try go_frame
     refine RL.step2 (i := 6) (j := 7) rfl rfl (by kernel_rfl) (by rfl) (by rfl) (fun y3 hly3 hsy3 K hK => ?_) (fun y3 hly3 hsy3 K hK => ?_)
     · have ksg := ksg.below hly3 ksg.lt
       refine RL.jc_ (F := 38) (args := #[.slice (some ⟨sg, 0, none⟩) 3 3]) (by go_simp; try rfl) ?_
       refine (HR2.out y3 _ (HT.out.below hsy3 HT.out.size) (HO.out.below hsy3 HO.out.size) (parts_blk [_, _, _] ksg 3 rfl)).mono ?_
       rintro e y3x ⟨rfl, hb⟩
       have hSy3x : RL.Aft w5 y3x := RL.Aft.lat hsy3 hb
       have ksg := ksg.below hb ksg.lt
       refine ⟨_, rfl, hK.out _ _ (RL.Aft.lat hsy3 hb) ?_⟩
       clear hK
       try go_frame
       refine RL.sk 7 (fun y4 hly4 hsy4 K hK => ?_)
       have ksg := ksg.below hly4 ksg.lt
       refine RL.jl_ (v := .pointer (some ⟨y4.heap.size, 0, none⟩)) (w' := y4.alloc (.cells z32 22)) (by go_simp; try rfl) ?_
       obtain ⟨yb, hyb⟩ : ∃ n, y4.heap.size = n := exr
       have hba : Below y4.heap.size y4 (y4.alloc (.cells z32 22)) := (Below.refl _ _).alloc (Nat.le_refl _) _
       have kyb : Rg.Blk (y4.alloc (.cells z32 22)) yb 22 z32 := Rg.Blk.newAt hyb.symm _ _
       have gyb : w5.heap.size ≤ yb := by rw [← hyb]; exact (show RL.Aft w5 y4 from hsy4).size
       have ksg := ksg.below hba ksg.lt
       refine hK.out _ _ (RL.Aft.alloc hsy4 _) ?_
       try rw [hyb]
       have hSy4y : RL.Aft w5 (y4.alloc (.cells z32 22)) := RL.Aft.alloc hsy4 _
       generalize hyy4 : y4.alloc (.cells z32 22) = y4y at *
       clear hyb hba hyy4
       clear hK
       try go_frame
       refine RL.norm #[true, true, true, true, true, true, true, true, false] (by kernel_rfl) ?_
       exact hrest sg yb _ ⟨by assumption, kyb, gyb⟩
     · have ksg := ksg.below hly3 ksg.lt
       refine RL.jl_ (v := .pointer (some ⟨y3.heap.size, 0, none⟩)) (w' := y3.alloc (.cells z32 22)) (by go_simp; try rfl) ?_
       obtain ⟨yb, hyb⟩ : ∃ n, y3.heap.size = n := exr
       have hba : Below y3.heap.size y3 (y3.alloc (.cells z32 22)) := (Below.refl _ _).alloc (Nat.le_refl _) _
       have kyb : Rg.Blk (y3.alloc (.cells z32 22)) yb 22 z32 := Rg.Blk.newAt hyb.symm _ _
       have gyb : w5.heap.size ≤ yb := by rw [← hyb]; exact (show RL.Aft w5 y3 from hsy3).size
       have ksg := ksg.below hba ksg.lt
       refine hK.out _ _ (RL.Aft.alloc hsy3 _) ?_
       try rw [hyb]
       have hSy3y : RL.Aft w5 (y3.alloc (.cells z32 22)) := RL.Aft.alloc hsy3 _
       generalize hyy3 : y3.alloc (.cells z32 22) = y3y at *
       clear hyb hba hyy3
       clear hK
       try go_frame
       refine RL.sk 6 (fun y5 hly5 hsy5 K hK => ?_)
       have ksg := ksg.below hly5 ksg.lt
       have kyb := kyb.below hly5 kyb.lt
       refine RL.jc_ (F := 38) (args := #[.slice (some ⟨sg, 0, none⟩) 3 3]) (by go_simp; try rfl) ?_
       refine (HR2.out y5 _ (HT.out.below hsy5 HT.out.size) (HO.out.below hsy5 HO.out.size) (parts_blk [_, _, _] ksg 3 rfl)).mono ?_
       rintro e y5x ⟨rfl, hb⟩
       have hSy5x : RL.Aft w5 y5x := RL.Aft.lat hsy5 hb
       have ksg := ksg.below hb ksg.lt
       have kyb := kyb.below hb kyb.lt
       refine ⟨_, rfl, hK.out _ _ (RL.Aft.lat hsy5 hb) ?_⟩
       clear hK
       try go_frame
       refine RL.norm #[true, true, true, true, true, true, true, true, false] (by kernel_rfl) ?_
       exact hrest sg yb _ ⟨by assumption, kyb, gyb⟩
   · refine RL.jl_ (v := .pointer (some ⟨y2.heap.size, 0, none⟩)) (w' := y2.alloc (.cells z32 22)) (by go_simp; try rfl) ?_
     obtain ⟨yb, hyb⟩ : ∃ n, y2.heap.size = n := exr
     have hba : Below y2.heap.size y2 (y2.alloc (.cells z32 22)) := (Below.refl _ _).alloc (Nat.le_refl _) _
     have kyb : Rg.Blk (y2.alloc (.cells z32 22)) yb 22 z32 := Rg.Blk.newAt hyb.symm _ _
     have gyb : w5.heap.size ≤ yb := by rw [← hyb]; exact (show RL.Aft w5 y2 from hsy2).size
     refine hK.out _ _ (RL.Aft.alloc hsy2 _) ?_
     try rw [hyb]
     have hSy2y : RL.Aft w5 (y2.alloc (.cells z32 22)) := RL.Aft.alloc hsy2 _
     generalize hyy2 : y2.alloc (.cells z32 22) = y2y at *
     clear hyb hba hyy2
     clear hK
     try go_frame
     refine RL.sk 5 (fun y6 hly6 hsy6 K hK => ?_)
     have kyb := kyb.below hly6 kyb.lt
     refine RL.jl_ (v := .slice (some ⟨y6.heap.size, 0, none⟩) 3 3) (w' := y6.alloc (.cells #[.string ⟨r.toArray⟩, .string ⟨key.toArray⟩, .string (bs m)] 9)) (by go_simp; try rfl) ?_
     obtain ⟨sg, hsg⟩ : ∃ n, y6.heap.size = n := exr
     have hba : Below y6.heap.size y6 (y6.alloc (.cells #[.string ⟨r.toArray⟩, .string ⟨key.toArray⟩, .string (bs m)] 9)) := (Below.refl _ _).alloc (Nat.le_refl _) _
     have ksg : Rg.Blk (y6.alloc (.cells #[.string ⟨r.toArray⟩, .string ⟨key.toArray⟩, .string (bs m)] 9)) sg 9 #[.string ⟨r.toArray⟩, .string ⟨key.toArray⟩, .string (bs m)] := Rg.Blk.newAt hsg.symm _ _
     have gsg : w5.heap.size ≤ sg := by rw [← hsg]; exact (show RL.Aft w5 y6 from hsy6).size
     have kyb := kyb.below hba kyb.lt
     refine hK.out _ _ (RL.Aft.alloc hsy6 _) ?_
     try rw [hsg]
     have hSy6y : RL.Aft w5 (y6.alloc (.cells #[.string ⟨r.toArray⟩, .string ⟨key.toArray⟩, .string (bs m)] 9)) := RL.Aft.alloc hsy6 _
     generalize hyy6 : y6.alloc (.cells #[.string ⟨r.toArray⟩, .string ⟨key.toArray⟩, .string (bs m)] 9) = y6y at *
     clear hsg hba hyy6
     clear hK
     try go_frame
     refine RL.sk 6 (fun y7 hly7 hsy7 K hK => ?_)
     have kyb := kyb.below hly7 kyb.lt
     have ksg := ksg.below hly7 ksg.lt
     refine RL.jc_ (F := 38) (args := #[.slice (some ⟨sg, 0, none⟩) 3 3]) (by go_simp; try rfl) ?_
     refine (HR2.out y7 _ (HT.out.below hsy7 HT.out.size) (HO.out.below hsy7 HO.out.size) (parts_blk [_, _, _] ksg 3 rfl)).mono ?_
     rintro e y7x ⟨rfl, hb⟩
     have hSy7x : RL.Aft w5 y7x := RL.Aft.lat hsy7 hb
     have kyb := kyb.below hb kyb.lt
     have ksg := ksg.below hb ksg.lt
     refine ⟨_, rfl, hK.out _ _ (RL.Aft.lat hsy7 hb) ?_⟩
     clear hK
     try go_frame
     refine RL.norm #[true, true, true, true, true, true, true, true, false] (by kernel_rfl) ?_
     exact hrest sg yb _ ⟨by assumption, kyb, gyb⟩
  case hrrq1 =>
   rintro sg yb Z0 ⟨ha0, hZ, gyb⟩
   have Fyb := ϕ gyb
   refine RL.sk 8 (fun va hlva hsva K hK => ?_)
   have hZ := hZ.below hlva hZ.lt
   refine qg_ 22 _ _ rfl yb (Cv.bytesV kk) _ 22 rfl (by rfl) hZ (by rw [Cv.qa_, HKK.out]; kernel_rfl) (by rw [Cv.qa_, HKK.out]; rfl) (Cv.qn_ _) ?_
   intro Y9 hY hgY
   refine hK.out _ _ (Below.grown hsva hgY (Below.size hsva) (fun k hk => by cases hk; exact Fyb.out)) ?_
   clear hK
   try go_frame
   refine RL.done (by kernel_rfl) (fun Z5 hlZ5 hsZ5 => ?_)
   have Hyb := ϕ (show Rg.Blk Z5 yb 22 (Cv.bytesV kk) from hY.below hlZ5 hY.lt)
   clear hZ hY hgY hlva hsva
   have HA := ϕ (show RL.Aft w5 Z5 from hsZ5)
   have Hgb := ϕ (qc_ HA.out Hgb.out)
   have Hcb := ϕ (qc_ HA.out Hcb.out)
   have Hpb := ϕ (qc_ HA.out Hpb.out)
   have Hxb := ϕ (qc_ HA.out Hxb.out)
   have HB := ϕ (HB.out.trans (Below.mono HA.out HB.out.size))
   clear HA hsZ5 hlZ5
   go_upto_region 7 with fail
   refine RL.start (RL.Aft Z5) (by kernel_rfl) (RL.Aft.drew (RL.Aft.refl Z5)) ?_
   refine RL.tu 0 ?_; go_frame
   refine RL.tu 1 ?_; go_frame
   refine RL.tw 2 (v := .agg (Cv.bytesV s)) rfl (fun W hSW => RT.qy_ 22 _ rfl _ rfl _ _ (qc_ hSW Hxb.out) underlying22 rfl (by rw [Cv.qa_, HSL.out]; kernel_rfl)) ?_
   try go_frame
   refine RL.tu 3 ?_; go_frame
   refine RL.tu 4 ?_; go_frame
   refine RL.tu 5 ?_; go_frame
   refine RL.tw 6 (v := .agg (u64s (els [c1, c2, c3, c4]))) rfl (fun W hSW => qo_ 78 _ rfl cb 10 rfl (u64s (els [c1, c2, c3, c4])) (els_at (qc_ hSW Hcb.out) 2 10 [c1, c2, c3, c4] rfl rfl (by simp)) underlying78 rfl (by kernel_rfl)) ?_
   try go_frame
   refine' RL.td 7 (v := (.agg (u64s (els [R1.x, R1.y, R1.z, R1.t])))) 34 #[.pointer (some ⟨cb, 0, none⟩), .agg (Cv.bytesV s), .agg (u64s (els [c1, c2, c3, c4]))] ?hc25 ?_
   case hc25 => (intro W hSW; exact (CM1.out cb W (qc_ hSW Hcb.out)).mono (fun e w9 h9 => ⟨h9.1, h9.2, RL.Aft.lat hSW h9.2⟩))
   try go_frame
   refine RL.tu 8 ?_; go_frame
   refine RL.tw 9 (v := .agg (Cv.bytesV kk)) rfl (fun W hSW => RT.qy_ 22 _ rfl _ rfl _ _ (qc_ hSW Hyb.out) underlying22 rfl (by rw [Cv.qa_, HKK.out]; kernel_rfl)) ?_
   try go_frame
   refine RL.tw 10 (v := .agg (u64s (els [R0.x, R0.y, R0.z, R0.t]))) rfl (fun W hSW => RT.qy_ 78 _ rfl _ rfl _ _ (qc_ hSW Hpb.out) underlying78 rfl (by kernel_rfl)) ?_
   try go_frame
   refine' RL.td 11 (v := (.agg (u64s (els [N0.x, N0.y, N0.z, N0.t])))) 98 #[.agg (u64s (els [R0.x, R0.y, R0.z, R0.t]))] ?hc27 ?_
   case hc27 => (intro W hSW; exact (CNE.out W).mono (fun e w9 h9 => ⟨h9.1, h9.2, RL.Aft.lat hSW h9.2⟩))
   try go_frame
   refine' RL.td 12 (v := (.agg (u64s (els [R2.x, R2.y, R2.z, R2.t])))) 34 #[.pointer (some ⟨cb, 0, none⟩), .agg (Cv.bytesV kk), .agg (u64s (els [N0.x, N0.y, N0.z, N0.t]))] ?hc28 ?_
   case hc28 => (intro W hSW; exact (CM2.out cb W (qc_ hSW Hcb.out)).mono (fun e w9 h9 => ⟨h9.1, h9.2, RL.Aft.lat hSW h9.2⟩))
   try go_frame
   refine' RL.td 13 (v := (.agg (u64s (els [D0.x, D0.y, D0.z, D0.t])))) 76 #[.pointer (some ⟨cb, 0, none⟩), .agg (u64s (els [R1.x, R1.y, R1.z, R1.t])), .agg (u64s (els [R2.x, R2.y, R2.z, R2.t]))] ?hc29 ?_
   case hc29 => (intro W hSW; exact (CAD.out cb W (qc_ hSW Hcb.out)).mono (fun e w9 h9 => ⟨h9.1, h9.2, RL.Aft.lat hSW h9.2⟩))
   try go_frame
   refine' RL.td 14 (v := (.agg (Cv.bytesV be))) 36 #[.agg (u64s (els [D0.x, D0.y, D0.z, D0.t]))] ?hc30 ?_
   case hc30 => (intro W hSW; exact (CBY.out W).mono (fun e w9 h9 => ⟨h9.1, h9.2, RL.Aft.lat hSW h9.2⟩))
   try go_frame
   refine RL.tu 15 ?_; go_frame
   refine RL.tw 16 (v := .pointer (some ⟨gb, 0, none⟩)) rfl (fun W hSW => run_arr 22 5 32 _ rfl gb 0 32 64 rfl underlying22 (by decide)) ?_
   try go_frame
   refine RL.tw 17 (v := .agg (Cv.bytesV r)) rfl (fun W hSW => qo_ 22 _ rfl gb 0 rfl (Cv.bytesV r) (Cv.Bytes.cells (front_of (qc_ hSW Hgb.out) HRL.out)) underlying22 rfl (by rw [Cv.qa_, HRL.out]; kernel_rfl)) ?_
   try go_frame
   refine' RL.tw 18 (v := .bool eb) rfl ?e8 ?_
   case e8 => (intro W hSW; have x1 := HEQ.out W; go_simp; try (clear x1; cases eb <;> rfl))
   try go_frame
   refine RL.tu 19 ?_; go_frame
   refine RL.done (by kernel_rfl) (fun Z9 hlZ9 hsZ9 => ?_)
   have HB := ϕ (HB.out.trans (Below.mono (show RL.Aft Z5 Z9 from hsZ9) HB.out.size))
   go_wp2_with fail
   go_ret
   exact ⟨rfl, HW.out ▸ HB.out⟩
theorem Verify_any (w : World) (key m r s : List UInt8) (hk : key.length = 32) (hm : m.length ≤ 10000) (hr : r.length = 32) (hs : s.length = 32) (hT : Sha.Tables w) (hO : Ord w) : Calls prog 55 #[.agg (Cv.bytesV key), .string (bs m), .agg (Cv.bytesV (r ++ s))] w fun e w' => e = .returned (.bool (ver key m r s)) ∧ Below w.heap.size w w' := by
 cases hd : dec key with
 | none => exact ver_no w key m r s hk hr hs hd hT hO
 | some A => exact ver_yes w key m r s hk hm hr hs hd hT hO
theorem s1_len : Ed.s1.length = 32 := by decide
theorem pub_len (l : List UInt8) : (pub l).length = 32 := enc_len _
structure Sg (w : World) : Prop where
 t : Sha.Tables w
 o : Ord w
theorem Sg.below {w w' : World} (h : Sg w) (hb : Below w.heap.size w w') : Sg w' := ⟨h.t.below hb h.t.size, h.o.below hb h.o.size⟩
theorem Sg.aft {w w' : World} (h : Sg w) (hb : RL.Aft w w') : Sg w' := h.below hb
end Kx
namespace Au
open Go.RowKit Go.Proofs.YtciibogkfbicfaaGreatDoor.Wi Go.Proofs.YtciibogkfbicfaaGreatDoor.Ow Go.Proofs.YtciibogkfbicfaaGreatDoor.Be Go.Proofs.YtciibogkfbicfaaGreatDoor.Bl Go.Proofs.YtciibogkfbicfaaGreatDoor.Cv Go.Proofs.YtciibogkfbicfaaGreatDoor.Kx
theorem Request_any (w : World) (id seed : List UInt8) (user : ByteArray) (hi : id.length = 32) (hs : seed.length = 32) (hu : user.size ≤ 1000) (hG : Sg w) :
 Calls prog 17 #[.agg (bytesV id), .agg (bytesV seed), .string user] w fun e w' => ∃ g, e = .returned (.agg (askV 50 g 4)) ∧ w.heap.size ≤ g ∧ Rg.Blk w' g 9 #[.string user, .string connB, .string methB, .string (mkS (reqL (Ed.pub seed) (Ed.sig seed (Ed.pub seed) (sgdL id user.data.toList (Ed.pub seed)))))] ∧ Below w.heap.size w w' := by
 have hpl := pub_len seed
 have hml := sgdL_length (user := user.data.toList) hi hpl
 have hgl : (Ed.sig seed (Ed.pub seed) (sgdL id user.data.toList (Ed.pub seed))).length = 64 := by unfold Ed.sig; rw [List.length_append, Ed.enc_len, qw_]
 have ck := fun W (h : Sg W) => Key_any W seed hs h.t
 have cs := fun W => Signed_any W id (Ed.pub seed) user hi hpl hu
 have cg := fun W (h : Sg W) => Sign_any W seed (sgdL id user.data.toList (Ed.pub seed)) hs (by rw [hml, qu_]; omega) h.t h.o
 obtain ⟨key, hkey⟩ : ∃ k, Ed.pub seed = k := exr
 rw [hkey] at hpl hml hgl ck cs cg
 rw [hkey]
 obtain ⟨m, hm⟩ : ∃ k, sgdL id user.data.toList key = k := exr
 rw [hm] at hml hgl cs cg
 rw [hm]
 obtain ⟨sg, hsg⟩ : ∃ k, Ed.sig seed key m = k := exr
 rw [hsg] at hgl
 rw [hsg] at cg
 rw [hsg]
 have z2 : (⟨#[115, 115, 104, 45, 101, 100, 50, 53, 53, 49, 57]⟩ : ByteArray).size ≤ 1900 := by decide
 have z3 : (mkS (blobL key)).size ≤ 1900 := by rw [mkS_size, qx_]; omega
 have z4 : (mkS (blobL sg)).size ≤ 1900 := by rw [mkS_size, qx_]; omega
 have ca := algo_eq
 obtain ⟨l1, e1⟩ : ∃ l, [] ++ ([1] : List UInt8) = l := exr
 obtain ⟨l2, e2⟩ : ∃ l, l1 ++ textL algoB.data.toList = l := exr
 obtain ⟨l3, e3⟩ : ∃ l, l2 ++ textL (blobL key) = l := exr
 obtain ⟨l4, e4⟩ : ∃ l, l3 ++ textL (blobL sg) = l := exr
 have n1 : l1.length ≤ 2000 := by
  rw [← e1, List.length_append]
  have := (show ([1] : List UInt8).length ≤ 1900 by decide)
  simp only [List.length_nil]; omega
 have n2 : l2.length ≤ 4000 := by
  rw [← e2, List.length_append]
  have := (show (textL algoB.data.toList).length ≤ 1900 by rw [jd_, qu_, jj_]; decide)
  omega
 have n3 : l3.length ≤ 6000 := by
  rw [← e3, List.length_append]
  have := (show (textL (blobL key)).length ≤ 1900 by rw [jd_, qx_]; omega)
  omega
 have n4 : l4.length ≤ 8000 := by
  rw [← e4, List.length_append]
  have := (show (textL (blobL sg)).length ≤ 1900 by rw [jd_, qx_]; omega)
  omega
 have T1 := ϕ (show ∀ W B b, IsOut B b ([] : List UInt8) W → B ≤ W.heap.size → Calls prog 42 #[.pointer (some ⟨b, 0, none⟩), .bool true] W (Wrote B b l1 W) from fun W B b h1 h2 => by
  have hp : ([] : List UInt8).length ≤ 0 := Nat.le_refl _
  have := Bool_any B b ([] : List UInt8) true W h1 (by omega) h2
  rw [show ([] : List UInt8) ++ [if true then 1 else 0] = l1 from e1] at this
  exact this)
 have T2 := ϕ (show ∀ W B b, IsOut B b l1 W → B ≤ W.heap.size → Calls prog 40 #[.pointer (some ⟨b, 0, none⟩), .string (⟨#[115, 115, 104, 45, 101, 100, 50, 53, 53, 49, 57]⟩ : ByteArray)] W (Wrote B b l2 W) from fun W B b h1 h2 => by
  have hz : (⟨#[115, 115, 104, 45, 101, 100, 50, 53, 53, 49, 57]⟩ : ByteArray).size ≤ 1900 := z2
  have hp : l1.length ≤ 2000 := n1
  have := Text_any B b l1 (⟨#[115, 115, 104, 45, 101, 100, 50, 53, 53, 49, 57]⟩ : ByteArray) (by omega) W h1 (by omega) h2
  rw [show l1 ++ textL ((⟨#[115, 115, 104, 45, 101, 100, 50, 53, 53, 49, 57]⟩ : ByteArray)).data.toList = l2 by rw [ca]; exact e2] at this
  exact this)
 have T3 := ϕ (show ∀ W B b, IsOut B b l2 W → B ≤ W.heap.size → Calls prog 40 #[.pointer (some ⟨b, 0, none⟩), .string (mkS (blobL key))] W (Wrote B b l3 W) from fun W B b h1 h2 => by
  have hz : (mkS (blobL key)).size ≤ 1900 := z3
  have hp : l2.length ≤ 4000 := n2
  have := Text_any B b l2 (mkS (blobL key)) (by omega) W h1 (by omega) h2
  rw [show l2 ++ textL ((mkS (blobL key))).data.toList = l3 from e3] at this
  exact this)
 have T4 := ϕ (show ∀ W B b, IsOut B b l3 W → B ≤ W.heap.size → Calls prog 40 #[.pointer (some ⟨b, 0, none⟩), .string (mkS (blobL sg))] W (Wrote B b l4 W) from fun W B b h1 h2 => by
  have hz : (mkS (blobL sg)).size ≤ 1900 := z4
  have hp : l3.length ≤ 6000 := n3
  have := Text_any B b l3 (mkS (blobL sg)) (by omega) W h1 (by omega) h2
  rw [show l3 ++ textL ((mkS (blobL sg))).data.toList = l4 from e4] at this
  exact this)
 have hl : reqL key sg = l4 := by rw [← e4, ← e3, ← e2, ← e1]; rfl
 rw [hl]
 have CK := ϕ ck
 have CS := ϕ (show ∀ W, Calls prog 14 #[.agg (bytesV id), .string user, .agg (bytesV key)] W fun e w' => e = .returned (.string (mkS m)) ∧ Below W.heap.size W w' from cs)
 have CG := ϕ (show ∀ W, Sg W → Calls prog 13 #[.agg (bytesV seed), .string (mkS m)] W fun e w' => e = .returned (.agg (bytesV sg)) ∧ Below W.heap.size W w' from cg)
 have CB := ϕ (fun W => SignBlob_any W sg hgl)
 have KB := ϕ (fun W => KeyBlob_any W key hpl)
 have AK := ϕ (fun W => ask_any W user (mkS l4))
 have BY := ϕ (show ∀ W B b, IsOut B b l4 W → B ≤ W.heap.size → Calls prog 44 #[.pointer (some ⟨b, 0, none⟩)] W fun e w' => e = .returned (.string (mkS l4)) ∧ Below B W w' from fun W B b h1 h2 => (Bytes_eq B b l4 _ rfl W (Bo.Read.of h1) h2).mono fun e w' ⟨h1, _, h3, _⟩ => ⟨h1, h3⟩)
 have HVk := ϕ (show (bytesV key).size = 32 by rw [qa_, hpl])
 have HVs := ϕ (show (bytesV seed).size = 32 by rw [qa_, hs])
 have HVi := ϕ (show (bytesV id).size = 32 by rw [qa_, hi])
 have HG := ϕ hG
 clear hl hpl hml hgl hi hs hu hG ck cs cg hkey hm hsg z2 z3 z4 ca e1 e2 e3 e4 n1 n2 n3 n4
 have tokA := trivial
 go_enter func17, ntmps17
 go_upto_region 1 with (first
  | (have _t := tokA; refine Rg.qh_ rfl 22 _ rfl _ rfl ?_; intro V1 hK hbV hnV; have HI := ϕ hK; have HB1 := ϕ hbV; have tokB := trivial; clear hK hbV hnV _t tokA)
  | (have _t := tokB; refine Rg.qh_ rfl 22 _ rfl _ rfl ?_; intro V2 hK hbV hnV; have HS := ϕ hK; have HI := ϕ (HI.out.below hbV HI.out.lt); have HB2 := ϕ (HB1.out.trans (hbV.mono HB1.out.size)); clear hK hbV hnV _t tokB))
 obtain ⟨ib, hib⟩ : ∃ n, w.heap.size = n := exr
 obtain ⟨sb, hsb⟩ : ∃ n, V1.heap.size = n := exr
 obtain ⟨rb, hrb⟩ : ∃ n, V2.heap.size = n := exr
 obtain ⟨V3, hV3⟩ : ∃ Y, V2.alloc (.cells askZ 39) = Y := exr
 have al : Below V2.heap.size V2 V3 := by rw [← hV3]; exact (Below.refl V2.heap.size V2).alloc (Nat.le_refl _) _
 have HB := ϕ (HB2.out.trans (al.mono HB2.out.size))
 have HIS := ϕ (show ib ≤ sb ∧ sb < rb from ⟨by rw [← hib, ← hsb]; exact HB1.out.size, by rw [← hsb, ← hrb]; exact HS.out.lt⟩)
 have HR := ϕ (show Rg.Blk V3 rb 39 askZ from by rw [← hrb, ← hV3]; exact Rg.Blk.new V2 _ _)
 have HI := ϕ (show Rg.Blk V3 ib 22 (bytesV id) from by rw [← hib]; exact HI.out.below al HI.out.lt)
 have HS := ϕ (show Rg.Blk V3 sb 22 (bytesV seed) from by rw [← hsb]; exact HS.out.below al HS.out.lt)
 have HWI := ϕ hib
 have HG := ϕ (HG.out.below HB.out)
 try rw [show (#[.int .i64 0, .slice none 0 0, .slice none 0 0, .slice none 0 0, .slice none 0 0] : Array Value) = askZ from rfl]
 try rw [hib]
 try rw [hsb]
 try rw [hV3]
 try rw [hrb]
 clear hib hsb hrb hV3 al HB1 HB2
 go_upto_region 2 with (first
  | ((with_reducible refine qd_ ?_); refine Cv.qi_ rfl 22 _ rfl sb 0 rfl (bytesV seed) _ (fun j v hv => by rw [Nat.zero_add]; exact Rg.Blk.cell HS.out j hv) underlying22 rfl (by rw [HVs.out]; kernel_rfl) ?_)
  | (go_at_call 9; refine (CK.out _ HG.out).mono ?_; rintro e w1 ⟨rfl, hb1⟩; have HI := ϕ (HI.out.below hb1 HI.out.lt); have HS := ϕ (HS.out.below hb1 HS.out.lt); have HR := ϕ (HR.out.below hb1 HR.out.lt); have HG := ϕ (HG.out.below hb1); have HB := tm HB hb1; clear hb1)
  | (refine Rg.qf_ rfl 22 _ _ rfl (bytesV key) _ 22 rfl rfl (by rw [HVk.out]; kernel_rfl) (by rw [HVk.out]; rfl) (qn_ _) ?_; intro V4 hX hbX; have HK := ϕ hX; have HRW := ϕ HR.out.lt; have HI := ϕ (HI.out.below hbX HI.out.lt); have HS := ϕ (HS.out.below hbX HS.out.lt); have HR := ϕ (HR.out.below hbX HR.out.lt); have HG := ϕ (HG.out.below hbX); have HB := tm HB hbX; clear hX hbX))
 obtain ⟨kb, hkb⟩ : ∃ n, w1.heap.size = n := exr
 have HK := ϕ (show Rg.Blk V4 kb 22 (bytesV key) from hkb ▸ HK.out)
 have HRK := ϕ (show rb < kb from hkb ▸ HRW.out)
 try rw [hkb]
 clear hkb HRW
 refine RL.start (RL.Aft V4) (by kernel_rfl) (RL.Aft.drew (RL.Aft.refl V4)) ?_
 refine RL.tw 0 (v := .agg (bytesV seed)) rfl (fun W hSW => RT.qy_ 22 _ rfl _ rfl _ _ (qc_ hSW HS.out) underlying22 rfl (by rw [HVs.out]; kernel_rfl)) ?_
 try go_frame
 refine RL.tw 1 (v := .agg (bytesV id)) rfl (fun W hSW => RT.qy_ 22 _ rfl _ rfl _ _ (qc_ hSW HI.out) underlying22 rfl (by rw [HVi.out]; kernel_rfl)) ?_
 try go_frame
 refine RL.tu 2 ?_; go_frame
 refine RL.tw 3 (v := .agg (bytesV key)) rfl (fun W hSW => RT.qy_ 22 _ rfl _ rfl _ _ (qc_ hSW HK.out) underlying22 rfl (by rw [HVk.out]; kernel_rfl)) ?_
 try go_frame
 refine' RL.td 4 (v := (.string (mkS m))) 14 #[.agg (bytesV id), .string user, .agg (bytesV key)] ?g4b ?_
 case g4b => (intro W hSW; exact (CS.out W).mono (fun e w9 h9 => ⟨h9.1, h9.2, RL.Aft.lat hSW h9.2⟩))
 try go_frame
 refine' RL.td 5 (v := (.agg (bytesV sg))) 13 #[.agg (bytesV seed), .string (mkS m)] ?g5b ?_
 case g5b => (intro W hSW; exact (CG.out W (HG.out.aft hSW)).mono (fun e w9 h9 => ⟨h9.1, h9.2, RL.Aft.lat hSW h9.2⟩))
 try go_frame
 refine' RL.td 6 (v := (.string (mkS (blobL sg)))) 46 #[.agg (bytesV sg)] ?g6b ?_
 case g6b => (intro W hSW; exact (CB.out W).mono (fun e w9 h9 => ⟨h9.1, h9.2, RL.Aft.lat hSW h9.2⟩))
 try go_frame
 refine RL.tu 7 ?_; go_frame
 refine RL.done (by kernel_rfl) (fun V5 hl5 hs5 => ?_)
 have hb5 : Below V4.heap.size V4 V5 := hs5
 have HB := tm HB hb5
 have HR := ϕ (HR.out.below hb5 HR.out.lt)
 have HKL := ϕ (Nat.lt_of_lt_of_le HK.out.lt hb5.size)
 have HK := ϕ (HK.out.below hb5 HK.out.lt)
 clear hl5 hs5 hb5 HI HS
 go_upto_region 4 with fail
 obtain ⟨ob, hob⟩ : ∃ n, V5.heap.size = n := exr
 obtain ⟨Y, hY⟩ : ∃ Y, V5.alloc (.cells #[.pointer none, .slice none 0 0] 93) = Y := exr
 have al : Below V5.heap.size V5 Y := by rw [← hY]; exact (Below.refl V5.heap.size V5).alloc (Nat.le_refl _) _
 have HYZ := ϕ (show Y.heap.size = ob + 1 from by rw [← hY, ← hob]; show (V5.heap.push _).size = _; rw [Array.size_push])
 have HO := ϕ (show IsOut ob ob [] Y from by rw [← hob, ← hY]; exact outFresh V5)
 have HBY := ϕ (HB.out.trans (al.mono HB.out.size))
 have HYS := ϕ (show ob ≤ Y.heap.size from by rw [HYZ.out]; exact Nat.le_succ _)
 have HKO := ϕ (show kb < ob from hob ▸ HKL.out)
 have HL2 := ϕ (show rb < ob from Nat.lt_trans HRK.out HKO.out)
 have HR := ϕ (HR.out.below al HR.out.lt)
 have HK := ϕ (HK.out.below al HK.out.lt)
 try rw [hob]
 try rw [hY]
 clear hob hY al HB HKL
 refine RL.start (QS Y rb ob) (by kernel_rfl) ⟨Sp.Upd.trans (Sp.Upd.refl _ _) (Sp.Upd.of_below (Below.drew (Below.refl _ _))) (by simp), askZ, rfl, HR.out.below (Below.drew (Below.refl _ _)) HR.out.lt⟩ ?_
 refine RL.tu 0 ?_; go_frame
 refine RL.tw 3 (v := .agg (bytesV key)) rfl (fun W hSW => RT.qy_ 22 _ rfl _ rfl _ _ (qk_ hSW.1 HK.out (by have := HRK.out; have := HKO.out; simp; omega)) underlying22 rfl (by rw [HVk.out]; kernel_rfl)) ?_
 try go_frame
 refine RL.tu 6 ?_; go_frame
 refine' RL.stepCall (i := 1) 42 #[.pointer (some ⟨ob, 0, none⟩), .bool true] rfl (by kernel_rfl) (by rfl) ?v1 ?c1
 case v1 => (intro W; go_simp; try with_reducible rfl)
 intro a1 hl1 hs1
 refine (T1.out a1 ob ob ((IsOut.below HO.out (Below.drew (Below.refl _ _))).below hl1) (Nat.le_trans HYS.out hs1.1.size)).mono ?_
 rintro e w1 ⟨rfl, h1, hc1⟩
 refine ⟨_, rfl, QS.below HYZ.out HL2.out hs1 hc1.below, ?_⟩
 try go_frame
 refine' RL.stepCall (i := 2) 40 #[.pointer (some ⟨ob, 0, none⟩), .string (⟨#[115, 115, 104, 45, 101, 100, 50, 53, 53, 49, 57]⟩ : ByteArray)] rfl (by kernel_rfl) (by rfl) ?v2 ?c2
 case v2 => (intro W; go_simp; try with_reducible rfl)
 intro a2 hl2 hs2
 refine (T2.out a2 ob ob (IsOut.below h1 hl2) (Nat.le_trans HYS.out hs2.1.size)).mono ?_
 rintro e w2 ⟨rfl, h2, hc2⟩
 refine ⟨_, rfl, QS.below HYZ.out HL2.out hs2 hc2.below, ?_⟩
 try go_frame
 refine' RL.stepCall (i := 4) 43 #[.agg (bytesV key)] rfl (by kernel_rfl) (by rfl) ?v4 ?c4
 case v4 => (intro W; go_simp; try with_reducible rfl)
 intro ak hlk hsk
 refine (KB.out ak).mono ?_
 rintro e wk ⟨rfl, hbk⟩
 refine ⟨_, rfl, QS.below HYZ.out HL2.out hsk (hbk.mono (Nat.le_trans HYS.out hsk.1.size)), ?_⟩
 try go_frame
 refine' RL.stepCall (i := 5) 40 #[.pointer (some ⟨ob, 0, none⟩), .string (mkS (blobL key))] rfl (by kernel_rfl) (by rfl) ?v5 ?c5
 case v5 => (intro W; go_simp; try with_reducible rfl)
 intro a3 hl3 hs3
 refine (T3.out a3 ob ob (((IsOut.below h2 hlk).below hbk).below hl3) (Nat.le_trans HYS.out hs3.1.size)).mono ?_
 rintro e w3 ⟨rfl, h3, hc3⟩
 refine ⟨_, rfl, QS.below HYZ.out HL2.out hs3 hc3.below, ?_⟩
 try go_frame
 refine' RL.stepCall (i := 7) 40 #[.pointer (some ⟨ob, 0, none⟩), .string (mkS (blobL sg))] rfl (by kernel_rfl) (by rfl) ?v7 ?c7
 case v7 => (intro W; go_simp; try with_reducible rfl)
 intro a4 hl4 hs4
 refine (T4.out a4 ob ob (IsOut.below h3 hl4) (Nat.le_trans HYS.out hs4.1.size)).mono ?_
 rintro e w4 ⟨rfl, h4, hc4⟩
 refine ⟨_, rfl, QS.below HYZ.out HL2.out hs4 hc4.below, ?_⟩
 try go_frame
 refine' RL.stepCall (i := 8) 44 #[.pointer (some ⟨ob, 0, none⟩)] rfl (by kernel_rfl) (by rfl) ?v8 ?c8
 case v8 => (intro W; go_simp; try with_reducible rfl)
 intro ay hly hsy
 refine (BY.out ay ob ob (IsOut.below h4 hly) (Nat.le_trans HYS.out hsy.1.size)).mono ?_
 rintro e wy ⟨rfl, hby⟩
 refine ⟨_, rfl, QS.below HYZ.out HL2.out hsy hby, ?_⟩
 try go_frame
 refine' RL.stepCall (i := 9) 45 #[.string user, .string (mkS l4)] rfl (by kernel_rfl) (by rfl) ?v9 ?c9
 case v9 => (intro W; go_simp; try with_reducible rfl)
 intro az hlz hsz
 refine (AK.out az).mono ?_
 rintro e wz ⟨g, rfl, hgz, hgb, hbz⟩
 refine ⟨_, rfl, QS.below HYZ.out HL2.out hsz (hbz.mono (Nat.le_trans HYS.out hsz.1.size)), ?_⟩
 try go_frame
 refine RL.sk 10 (fun va hlva hsva K hK => ?_)
 have hga := Rg.Blk.below hgb hlva hgb.lt
 have hgo : ob < g := by have := hsz.1.size; have := HYZ.out; omega
 obtain ⟨hsu, cs, hcs, hO⟩ := hsva
 refine qg_ 39 _ _ rfl rb (askV 50 g 4) cs 39 rfl (by rfl) hO (by kernel_rfl) (by rw [hcs]; kernel_rfl) (by unfold askV; simp [Value.oneCell']) ?_
 intro Z hZ hgZ
 refine hK.out _ _ ⟨Sp.Upd.trans hsu (Sp.Upd.of_grown1 hgZ) (fun q hq => .inl (by simp at hq; simp [hq])), _, rfl, hZ⟩ ?_
 clear hK
 try go_frame
 refine RL.done (by kernel_rfl) (fun V hlV hsV => ?_)
 have HRV := ϕ (show Rg.Blk V rb 39 (askV 50 g 4) from Rg.Blk.below hZ hlV hZ.lt)
 have HGV := ϕ (show Rg.Blk V g 9 #[.string user, .string connB, .string methB, .string (mkS l4)] from Rg.Blk.below (qb_ hga hgZ (by have := HL2.out; omega)) hlV (qb_ hga hgZ (by have := HL2.out; omega)).lt)
 have HBV := ϕ (qm_ HBY.out hsV.1 (fun k hk => by have := HWI.out; have := HIS.out; have := HL2.out; simp at hk; omega) HBY.out.size)
 have HGW := ϕ (show w.heap.size ≤ g from by have := HWI.out; have := HIS.out; have := HL2.out; omega)
 clear hlV hsV hZ hgZ hO hga hlva hsu
 go_wp2_with fail
 refine bodyPost_ret (v := .agg (askV 50 g 4))
  (results_cell_row results17 _ _ rb 39 _ (0, 0) _ rfl HRV.out underlying39 rfl (by kernel_rfl)) rfl ?_
 exact ⟨g, rfl, HGW.out, HGV.out, HBV.out⟩
structure SvC (cs : Array Value) (sb : Nat) (id : List UInt8) (most : Nat) (st : Sv) : Prop where
 size : cs.size = 69
 s : cs[0]? = some (.pointer (some ⟨sb, 0, none⟩))
 ids : ∀ (j : Nat) x, (bytesV id)[j]? = some x → cs[1 + j]? = some x
 most : cs[33]? = some (.int .i64 (most : Int))
 acc : cs[34]? = some (.bool st.acc)
 tries : cs[35]? = some (.int .i64 (st.tries : Int))
 ten : cs[36]? = some (.string (mkS st.ten))
 key : ∀ (j : Nat) x, (bytesV st.key)[j]? = some x → cs[37 + j]? = some x
 il : id.length = 32
 kl : st.key.length = 32
theorem SvC.setAcc {cs : Array Value} {sb : Nat} {id : List UInt8} {most : Nat} {st : Sv} (h : SvC cs sb id most st) : SvC (cs.setIfInBounds 34 (.bool true)) sb id most { st with acc := true } := by
 have hj : ∀ (j : Nat) x, (bytesV id)[j]? = some x → 1 + j ≠ 34 := fun j x hx e => by
  have := (Array.getElem?_eq_some_iff.1 hx).1
  rw [qa_, h.il] at this; omega
 refine ⟨by rw [Array.size_setIfInBounds]; exact h.size, ?_, fun j x hx => ?_, ?_, ?_, ?_, ?_, fun j x hx => ?_, h.il, h.kl⟩
 · rw [Array.getElem?_setIfInBounds_ne (by decide)]; exact h.s
 · rw [Array.getElem?_setIfInBounds_ne (fun e => hj j x hx e.symm)]; exact h.ids j x hx
 · rw [Array.getElem?_setIfInBounds_ne (by decide)]; exact h.most
 · rw [Array.getElem?_setIfInBounds_self_of_lt (by rw [h.size]; decide)]
 · rw [Array.getElem?_setIfInBounds_ne (by decide)]; exact h.tries
 · rw [Array.getElem?_setIfInBounds_ne (by decide)]; exact h.ten
 · rw [Array.getElem?_setIfInBounds_ne (by omega)]; exact h.key j x hx
theorem SvC.setTries {cs : Array Value} {sb : Nat} {id : List UInt8} {most : Nat} {st : Sv} (h : SvC cs sb id most st) : SvC (cs.setIfInBounds 35 (.int .i64 ((st.tries : Int) + 1))) sb id most { st with tries := st.tries + 1 } := by
 have hj : ∀ (j : Nat) x, (bytesV id)[j]? = some x → 1 + j ≠ 35 := fun j x hx e => by
  have := (Array.getElem?_eq_some_iff.1 hx).1
  rw [qa_, h.il] at this; omega
 refine ⟨by rw [Array.size_setIfInBounds]; exact h.size, ?_, fun j x hx => ?_, ?_, ?_, ?_, ?_, fun j x hx => ?_, h.il, h.kl⟩
 · rw [Array.getElem?_setIfInBounds_ne (by decide)]; exact h.s
 · rw [Array.getElem?_setIfInBounds_ne (fun e => hj j x hx e.symm)]; exact h.ids j x hx
 · rw [Array.getElem?_setIfInBounds_ne (by decide)]; exact h.most
 · rw [Array.getElem?_setIfInBounds_ne (by decide)]; exact h.acc
 · rw [Array.getElem?_setIfInBounds_self_of_lt (by rw [h.size]; decide)]; rfl
 · rw [Array.getElem?_setIfInBounds_ne (by decide)]; exact h.ten
 · rw [Array.getElem?_setIfInBounds_ne (by omega)]; exact h.key j x hx
def inCs (cs : Array Value) (t k : List UInt8) : Array Value := ((cs.setIfInBounds 36 (.string (mkS t))).toList.take 37 ++ (bytesV k).toList ++ (cs.setIfInBounds 36 (.string (mkS t))).toList.drop (37 + (bytesV k).size)).toArray
theorem SvC.setIn {cs : Array Value} {sb : Nat} {id : List UInt8} {most : Nat} {st : Sv} (h : SvC cs sb id most st) (t k : List UInt8) (hk : k.length = 32) : SvC (inCs cs t k) sb id most { st with ten := t, key := k } := by
 have hks : (bytesV k).toList.length = 32 := by rw [Array.length_toList, qa_, hk]
 have hcl : (cs.setIfInBounds 36 (.string (mkS t))).toList.length = 69 := by rw [Array.length_toList, Array.size_setIfInBounds]; exact h.size
 have hz : (inCs cs t k).size = 69 := by
  unfold inCs
  rw [List.size_toArray, List.length_append, List.length_append, List.length_take, List.length_drop, hks, hcl, qa_, hk]
  rfl
 have lo : ∀ j : Nat, j < 37 → (inCs cs t k)[j]? = (cs.setIfInBounds 36 (.string (mkS t)))[j]? := fun j hj => by
  unfold inCs
  rw [List.getElem?_toArray, List.append_assoc, List.getElem?_append_left (by rw [List.length_take, hcl]; omega), List.getElem?_take_of_lt hj, Array.getElem?_toList]
 have mid : ∀ (j : Nat) x, (bytesV k)[j]? = some x → (inCs cs t k)[37 + j]? = some x := fun j x hx => by
  have hj : j < 32 := by have := (Array.getElem?_eq_some_iff.1 hx).1; rw [qa_, hk] at this; exact this
  unfold inCs
  rw [List.getElem?_toArray, List.getElem?_append_left (by rw [List.length_append, List.length_take, hcl, hks]; omega), List.getElem?_append_right (by rw [List.length_take, hcl]; omega), List.length_take, hcl, show 37 + j - min 37 69 = j by omega, Array.getElem?_toList]
  exact hx
 have l2 : ∀ j : Nat, j < 36 → (inCs cs t k)[j]? = cs[j]? := fun j hj => by
  rw [lo j (by omega), Array.getElem?_setIfInBounds_ne (by omega)]
 refine ⟨hz, by rw [l2 0 (by decide)]; exact h.s, fun j x hx => ?_, by rw [l2 33 (by decide)]; exact h.most, by rw [l2 34 (by decide)]; exact h.acc, by rw [l2 35 (by decide)]; exact h.tries, ?_, mid, h.il, hk⟩
 · have hj : j < 32 := by have := (Array.getElem?_eq_some_iff.1 hx).1; rw [qa_, h.il] at this; exact this
   rw [l2 (1 + j) (by omega)]; exact h.ids j x hx
 · rw [lo 36 (by decide), Array.getElem?_setIfInBounds_self_of_lt (by rw [h.size]; decide)]
structure UpdP (w w' : World) (P : Nat → Prop) : Prop where
 os : w'.os = w.os
 tape : w'.tape = w.tape
 output : w'.output = w.output
 size : w.heap.size ≤ w'.heap.size
 block : ∀ k, k < w.heap.size → ¬ P k → w'.heap[k]? = w.heap[k]?
theorem UpdP.trans {a b c : World} {P : Nat → Prop} (h : UpdP a b P) (k : UpdP b c P) : UpdP a c P :=
 ⟨k.os.trans h.os, k.tape.trans h.tape, k.output.trans h.output, Nat.le_trans h.size k.size, fun j hj hn => (k.block j (Nat.lt_of_lt_of_le hj h.size) hn).trans (h.block j hj hn)⟩
theorem UpdP.refl (w : World) (P : Nat → Prop) : UpdP w w P := ⟨rfl, rfl, rfl, Nat.le_refl _, fun _ _ _ => rfl⟩
theorem UpdP.of {w w' : World} {s : List Nat} {P : Nat → Prop} (h : Sp.Upd w w' s) (hs : ∀ k ∈ s, P k) : UpdP w w' P :=
 ⟨h.os, h.tape, h.output, h.size, fun k hk hn => h.block k hk (fun e => hn (hs k e))⟩
structure IsSv (w : World) (P : Nat → Prop) (b sb bo bw T K N : Nat) (L : List St.Pr) (id : List UInt8) (most : Nat) (st : Sv) : Prop where
 blk : ∃ cs, Rg.Blk w b 114 cs ∧ SvC cs sb id most st
 own : P b
 st : ∀ w', UpdP w w' P → St.IsSt w' sb bo bw T K N L
theorem IsSv.is {w : World} {P : Nat → Prop} {b sb bo bw T K N : Nat} {L : List St.Pr} {id : List UInt8} {most : Nat} {st : Sv} (h : IsSv w P b sb bo bw T K N L id most st) : St.IsSt w sb bo bw T K N L := h.st w (UpdP.refl _ _)
theorem IsSv.upd {w w' : World} {P : Nat → Prop} {b sb bo bw T K N : Nat} {L : List St.Pr} {id : List UInt8} {most : Nat} {st st' : Sv} (h : IsSv w P b sb bo bw T K N L id most st) (hu : Sp.Upd w w' [b]) {cs : Array Value} (hB : Rg.Blk w' b 114 cs) (hc : SvC cs sb id most st') : IsSv w' P b sb bo bw T K N L id most st' :=
 ⟨⟨cs, hB, hc⟩, h.own, fun w2 h2 => h.st w2 ((UpdP.of hu (fun k hk => by rw [List.mem_singleton.1 hk]; exact h.own)).trans h2)⟩
theorem IsSv.below {w w' : World} {P : Nat → Prop} {b sb bo bw T K N : Nat} {L : List St.Pr} {id : List UInt8} {most : Nat} {st : Sv} (h : IsSv w P b sb bo bw T K N L id most st) (hb : Below w.heap.size w w') : IsSv w' P b sb bo bw T K N L id most st := by
 obtain ⟨cs, h1, h2⟩ := h.blk
 exact ⟨⟨cs, h1.below hb h1.lt, h2⟩, h.own, fun w2 h3 => h.st w2 ((UpdP.of (Sp.Upd.of_below hb) (by simp)).trans h3)⟩
theorem IsSv.other {w w' : World} {P : Nat → Prop} {b c sb bo bw T K N : Nat} {L : List St.Pr} {id : List UInt8} {most : Nat} {st : Sv} (h : IsSv w P b sb bo bw T K N L id most st) (hu : Sp.Upd w w' [c]) (hP : P c) (hc : b ≠ c) : IsSv w' P b sb bo bw T K N L id most st := by
 obtain ⟨cs, h1, h2⟩ := h.blk
 refine ⟨⟨cs, ?_, h2⟩, h.own, fun w2 h3 => h.st w2 ((UpdP.of hu (fun k hk => by rw [List.mem_singleton.1 hk]; exact hP)).trans h3)⟩
 unfold Rg.Blk at h1 ⊢
 rw [hu.block b (Array.getElem?_eq_some_iff.1 h1).1 (by simpa using hc)]
 exact h1
theorem st_nil {w w' : World} {sb bo bw T K N : Nat} (h : St.IsSt w sb bo bw T K N []) (h1 : w'.heap[sb]? = w.heap[sb]?) (h2 : w'.heap[bo]? = w.heap[bo]?) (h3 : w'.heap[bw]? = w.heap[bw]?) : St.IsSt w' sb bo bw T K N [] := by
 obtain ⟨e1, e2, e3, ⟨f, hf, hfx⟩, ⟨g, s, hg, hgx⟩⟩ := h
 refine ⟨?_, e2, e3, ⟨f, hf.keep h2, fun x => ?_⟩, ⟨g, s, hg.keep h3, hgx⟩⟩
 · unfold Rg.Blk at e1 ⊢
   rw [h1]; exact e1
 · rcases hfx x with h | ⟨h4, _⟩
   · exact .inl h
   · exact absurd rfl h4
def putAt (cs : Array Value) (o : Nat) (l : Array Value) : Array Value := l.zipIdx.foldl (fun (cs : Array Value) (x : Value × Nat) => cs.setIfInBounds (o + x.2) x.1) cs
theorem putAt_get (cs : Array Value) (o : Nat) (l : Array Value) (h : o + l.size ≤ cs.size) (j : Nat) : (putAt cs o l)[j]? = if o ≤ j ∧ j < o + l.size then l[j - o]? else cs[j]? := by
 unfold putAt
 rw [← Array.foldl_toList, Array.toList_zipIdx, fold_setO o l.toList 0 cs (by rw [Array.length_toList]; omega) j, Array.length_toList, Nat.add_zero, Array.getElem?_toList]
theorem putAt_size (cs : Array Value) (o : Nat) (l : Array Value) (h : o + l.size ≤ cs.size) : (putAt cs o l).size = cs.size := by
 have hg := putAt_get cs o l h
 have h2 := hg cs.size
 rw [if_neg (by omega), Array.getElem?_eq_none (xs := cs) (Nat.le_refl _)] at h2
 have h4 := Array.getElem?_eq_none_iff.1 h2
 by_cases hz : cs.size = 0
 · omega
 · have h1 := hg (cs.size - 1)
   by_cases hc : o ≤ cs.size - 1 ∧ cs.size - 1 < o + l.size
   · rw [if_pos hc, Array.getElem?_eq_getElem (xs := l) (by omega)] at h1
     have := (Array.getElem?_eq_some_iff.1 h1).1
     omega
   · rw [if_neg hc, Array.getElem?_eq_getElem (xs := cs) (by omega)] at h1
     have := (Array.getElem?_eq_some_iff.1 h1).1
     omega
theorem putAt_in {cs : Array Value} {o : Nat} {l : Array Value} (h : o + l.size ≤ cs.size) {j : Nat} {x : Value} (hx : l[j]? = some x) : (putAt cs o l)[o + j]? = some x := by
 have hj := (Array.getElem?_eq_some_iff.1 hx).1
 rw [putAt_get cs o l h, if_pos (by omega), show o + j - o = j by omega]; exact hx
theorem putAt_out {cs : Array Value} {o : Nat} {l : Array Value} (h : o + l.size ≤ cs.size) {j : Nat} (hj : j < o ∨ o + l.size ≤ j) : (putAt cs o l)[j]? = cs[j]? := by
 rw [putAt_get cs o l h, if_neg (by omega)]
theorem fill_step {place : Nat → Option (Nat × Nat)} {cs : Array Value} {i : Nat} {v : Value} {rest : List (Nat × Value)} {off size : Nat} (hp : place i = some (off, size)) (hs : v.cells.size = size) (hb : off + size ≤ cs.size) :
 Instr.fill place cs ((i, v) :: rest) = Instr.fill place (putAt cs off v.cells) rest := by
 rw [Instr.fill, hp]
 simp only
 rw [if_neg (by simp [hs]; omega)]
 rfl
theorem built_sv (sb : Nat) (id : List UInt8) (most : Nat) (hi : id.length = 32) : ∃ cs, prog.built 114 [(0, .pointer (some ⟨sb, 0, none⟩)), (1, .agg (bytesV id)), (2, .int .i64 (most : Int))] = some cs ∧ SvC cs sb id most ⟨false, 0, [], zB 32⟩ := by
 have e : prog.built 114 [(0, .pointer (some ⟨sb, 0, none⟩)), (1, .agg (bytesV id)), (2, .int .i64 (most : Int))] = Instr.fill (#[(0, 1), (1, 32), (33, 1), (34, 1), (35, 1), (36, 1), (37, 32)][·]?) #[.pointer none, .int .u8 0, .int .u8 0, .int .u8 0, .int .u8 0, .int .u8 0, .int .u8 0, .int .u8 0, .int .u8 0, .int .u8 0, .int .u8 0, .int .u8 0, .int .u8 0, .int .u8 0, .int .u8 0, .int .u8 0, .int .u8 0, .int .u8 0, .int .u8 0, .int .u8 0, .int .u8 0, .int .u8 0, .int .u8 0, .int .u8 0, .int .u8 0, .int .u8 0, .int .u8 0, .int .u8 0, .int .u8 0, .int .u8 0, .int .u8 0, .int .u8 0, .int .u8 0, .int .i64 0, .bool false, .int .i64 0, .string ⟨#[]⟩, .int .u8 0, .int .u8 0, .int .u8 0, .int .u8 0, .int .u8 0, .int .u8 0, .int .u8 0, .int .u8 0, .int .u8 0, .int .u8 0, .int .u8 0, .int .u8 0, .int .u8 0, .int .u8 0, .int .u8 0, .int .u8 0, .int .u8 0, .int .u8 0, .int .u8 0, .int .u8 0, .int .u8 0, .int .u8 0, .int .u8 0, .int .u8 0, .int .u8 0, .int .u8 0, .int .u8 0, .int .u8 0, .int .u8 0, .int .u8 0, .int .u8 0, .int .u8 0] [(0, .pointer (some ⟨sb, 0, none⟩)), (1, .agg (bytesV id)), (2, .int .i64 (most : Int))] := by kernel_rfl
 have zk := zero_key
 have hs : (bytesV id).size = 32 := by rw [qa_, hi]
 obtain ⟨zz, hz, z0, z1, z2, z3, z4⟩ : ∃ zz : Array Value, zz = (#[.pointer none, .int .u8 0, .int .u8 0, .int .u8 0, .int .u8 0, .int .u8 0, .int .u8 0, .int .u8 0, .int .u8 0, .int .u8 0, .int .u8 0, .int .u8 0, .int .u8 0, .int .u8 0, .int .u8 0, .int .u8 0, .int .u8 0, .int .u8 0, .int .u8 0, .int .u8 0, .int .u8 0, .int .u8 0, .int .u8 0, .int .u8 0, .int .u8 0, .int .u8 0, .int .u8 0, .int .u8 0, .int .u8 0, .int .u8 0, .int .u8 0, .int .u8 0, .int .u8 0, .int .i64 0, .bool false, .int .i64 0, .string ⟨#[]⟩, .int .u8 0, .int .u8 0, .int .u8 0, .int .u8 0, .int .u8 0, .int .u8 0, .int .u8 0, .int .u8 0, .int .u8 0, .int .u8 0, .int .u8 0, .int .u8 0, .int .u8 0, .int .u8 0, .int .u8 0, .int .u8 0, .int .u8 0, .int .u8 0, .int .u8 0, .int .u8 0, .int .u8 0, .int .u8 0, .int .u8 0, .int .u8 0, .int .u8 0, .int .u8 0, .int .u8 0, .int .u8 0, .int .u8 0, .int .u8 0, .int .u8 0, .int .u8 0] : Array Value) ∧ zz.size = 69 ∧ zz[34]? = some (.bool false) ∧ zz[35]? = some (.int .i64 0) ∧ zz[36]? = some (.string ⟨#[]⟩) ∧ zz.extract 37 69 = #[.int .u8 0, .int .u8 0, .int .u8 0, .int .u8 0, .int .u8 0, .int .u8 0, .int .u8 0, .int .u8 0, .int .u8 0, .int .u8 0, .int .u8 0, .int .u8 0, .int .u8 0, .int .u8 0, .int .u8 0, .int .u8 0, .int .u8 0, .int .u8 0, .int .u8 0, .int .u8 0, .int .u8 0, .int .u8 0, .int .u8 0, .int .u8 0, .int .u8 0, .int .u8 0, .int .u8 0, .int .u8 0, .int .u8 0, .int .u8 0, .int .u8 0, .int .u8 0] := ⟨_, rfl, rfl, rfl, rfl, rfl, rfl⟩
 rw [e, ← hz]
 clear hz e
 rw [← zk] at z4
 have b1 : 0 + (Value.pointer (some ⟨sb, 0, none⟩)).cells.size ≤ zz.size := by rw [z0]; exact Nat.le_of_ble_eq_true rfl
 rw [fill_step (off := 0) (size := 1) rfl rfl (by rw [z0]; decide)]
 obtain ⟨c1, h1⟩ : ∃ c, putAt zz 0 (Value.pointer (some ⟨sb, 0, none⟩)).cells = c := exr
 have s1 : c1.size = 69 := by rw [← h1, putAt_size _ _ _ b1, z0]
 rw [h1]
 have b2 : 1 + (bytesV id).size ≤ c1.size := by rw [s1, hs]; decide
 rw [fill_step (off := 1) (size := 32) rfl (by exact hs) (by rw [s1]; decide)]
 obtain ⟨c2, h2⟩ : ∃ c, putAt c1 1 (Value.agg (bytesV id)).cells = c := exr
 have h2' : putAt c1 1 (bytesV id) = c2 := h2
 have s2 : c2.size = 69 := by rw [← h2', putAt_size _ _ _ b2, s1]
 rw [h2]
 have b3 : 33 + (Value.int .i64 (most : Int)).cells.size ≤ c2.size := by rw [s2]; exact Nat.le_of_ble_eq_true rfl
 rw [fill_step (off := 33) (size := 1) rfl rfl (by rw [s2]; decide)]
 obtain ⟨c3, h3⟩ : ∃ c, putAt c2 33 (Value.int .i64 (most : Int)).cells = c := exr
 have s3 : c3.size = 69 := by rw [← h3, putAt_size _ _ _ b3, s2]
 rw [h3]
 have out3 : ∀ j : Nat, j ≠ 33 → c3[j]? = c2[j]? := fun j hj => by
  rw [← h3]; exact putAt_out b3 (by show j < 33 ∨ 34 ≤ j; omega)
 have out2 : ∀ j : Nat, (j < 1 ∨ 33 ≤ j) → c2[j]? = c1[j]? := fun j hj => by
  rw [← h2']; exact putAt_out b2 (by rw [hs]; omega)
 have out1 : ∀ j : Nat, j ≠ 0 → c1[j]? = zz[j]? := fun j hj => by
  rw [← h1]; exact putAt_out b1 (by show j < 0 ∨ 1 ≤ j; omega)
 have all : ∀ j : Nat, 34 ≤ j → c3[j]? = zz[j]? := fun j hj => by rw [out3 j (by omega), out2 j (by omega), out1 j (by omega)]
 refine ⟨c3, rfl, s3, ?_, fun j x hx => ?_, ?_, by rw [all 34 (by decide)]; exact z1, by rw [all 35 (by decide)]; exact z2, by rw [all 36 (by decide)]; exact z3, fun j x hx => ?_, hi, jt_ 32⟩
 · rw [out3 0 (by decide), out2 0 (by decide), ← h1]
   exact putAt_in b1 (j := 0) rfl
 · have hj : j < 32 := by have := (Array.getElem?_eq_some_iff.1 hx).1; rw [hs] at this; exact this
   rw [out3 (1 + j) (by omega), ← h2']
   exact putAt_in b2 hx
 · rw [← h3]
   exact putAt_in b3 (j := 0) rfl
 · rw [all (37 + j) (by omega)]
   have hj : j < 32 := by have := (Array.getElem?_eq_some_iff.1 hx).1; rw [qa_, jt_] at this; exact this
   rw [← z4, Array.getElem?_extract, if_pos (by omega)] at hx
   exact hx
def tryV (X : ByteArray) (K : List UInt8) (B : Bool) (Z : List UInt8) : Array Value := (.string X :: ((bytesV K).toList ++ (.bool B :: (bytesV Z).toList))).toArray
theorem tryV_size (X : ByteArray) {K : List UInt8} (B : Bool) {Z : List UInt8} (hK : K.length = 32) (hZ : Z.length = 64) : (tryV X K B Z).size = 98 := by
 unfold tryV
 rw [List.size_toArray, List.length_cons, List.length_append, List.length_cons, Array.length_toList, Array.length_toList, qa_, qa_, hK, hZ]
theorem tryV_one (X : ByteArray) (K : List UInt8) (B : Bool) (Z : List UInt8) : (tryV X K B Z).all (·.oneCell') = true := by
 have h1 := qn_ K
 have h2 := qn_ Z
 rw [Array.all_eq_true_iff_forall_mem] at h1 h2
 unfold tryV
 rw [Array.all_eq_true_iff_forall_mem]
 intro x hx
 simp only [List.mem_toArray, List.mem_cons, List.mem_append, Array.mem_toList_iff] at hx
 rcases hx with rfl | hx | rfl | hx
 · rfl
 · exact h1 x hx
 · rfl
 · exact h2 x hx
theorem tryV_0 (X : ByteArray) (K : List UInt8) (B : Bool) (Z : List UInt8) : (tryV X K B Z)[0]? = some (.string X) := by unfold tryV; rfl
theorem tryV_k (X : ByteArray) {K : List UInt8} (B : Bool) (Z : List UInt8) (j : Nat) (v : Value) (h : (bytesV K)[j]? = some v) : (tryV X K B Z)[1 + j]? = some v := by
 unfold tryV
 rw [List.getElem?_toArray, Nat.add_comm, List.getElem?_cons_succ, List.getElem?_append_left (by rw [Array.length_toList]; exact (Array.getElem?_eq_some_iff.1 h).1), Array.getElem?_toList]
 exact h
theorem tryV_b (X : ByteArray) {K : List UInt8} (B : Bool) (Z : List UInt8) (hK : K.length = 32) : (tryV X K B Z)[33]? = some (.bool B) := by
 unfold tryV
 rw [List.getElem?_toArray, List.getElem?_cons_succ, List.getElem?_append_right (by rw [Array.length_toList, qa_, hK]; decide), Array.length_toList, qa_, hK]
 rfl
theorem tryV_z (X : ByteArray) {K : List UInt8} (B : Bool) {Z : List UInt8} (hK : K.length = 32) (j : Nat) (v : Value) (h : (bytesV Z)[j]? = some v) : (tryV X K B Z)[34 + j]? = some v := by
 unfold tryV
 rw [List.getElem?_toArray, show 34 + j = (33 + j) + 1 by omega, List.getElem?_cons_succ, List.getElem?_append_right (by rw [Array.length_toList, qa_, hK]; omega), Array.length_toList, qa_, hK, show 33 + j - 32 = j + 1 by omega, List.getElem?_cons_succ, Array.getElem?_toList]
 exact h
theorem tryV_setX (X Y : ByteArray) (K : List UInt8) (B : Bool) (Z : List UInt8) : (tryV X K B Z).setIfInBounds 0 (.string Y) = tryV Y K B Z := by
 unfold tryV
 rw [List.setIfInBounds_toArray, List.set_cons_zero]
theorem tryV_setK (X : ByteArray) {K J : List UInt8} (B : Bool) (Z : List UInt8) (hK : K.length = 32) (hJ : J.length = 32) : ((tryV X K B Z).toList.take 1 ++ (bytesV J).toList ++ (tryV X K B Z).toList.drop (1 + (bytesV J).size)).toArray = tryV X J B Z := by
 have h1 : (bytesV K).toList.length = 32 := by rw [Array.length_toList, qa_, hK]
 have h2 : (bytesV J).size = 32 := by rw [qa_, hJ]
 unfold tryV
 rw [h2]
 simp only [List.take_succ_cons, List.take_zero, List.drop_succ_cons, show 1 + 32 = 32 + 1 from rfl]
 rw [List.drop_left' h1]
 simp
theorem tryV_setZ (X : ByteArray) {K : List UInt8} (B : Bool) {Z J : List UInt8} (hK : K.length = 32) (hZ : Z.length = 64) (hJ : J.length = 64) : ((tryV X K B Z).toList.take 34 ++ (bytesV J).toList ++ (tryV X K B Z).toList.drop (34 + (bytesV J).size)).toArray = tryV X K B J := by
 have h1 : (bytesV K).toList.length = 32 := by rw [Array.length_toList, qa_, hK]
 have h2 : (bytesV J).size = 64 := by rw [qa_, hJ]
 have h3 : (bytesV Z).toList.length = 64 := by rw [Array.length_toList, qa_, hZ]
 have e1 : (tryV X K B Z).toList = (.string X :: ((bytesV K).toList ++ [.bool B])) ++ (bytesV Z).toList := by unfold tryV; simp
 have l1 : (.string X :: ((bytesV K).toList ++ [.bool B]) : List Value).length = 34 := by simp [qa_, hK]
 rw [e1, h2, List.take_left' l1, List.drop_eq_nil_of_le (by rw [List.length_append, l1, h3]; exact Nat.le_refl _), List.append_nil]
 unfold tryV
 simp
theorem built_try (B : Bool) : prog.built 116 [(2, .bool B)] = some (tryV ⟨#[]⟩ (zB 32) B (zB 64)) := by
 have e : prog.built 116 [(2, .bool B)] = some #[.string ⟨#[]⟩, .int .u8 0, .int .u8 0, .int .u8 0, .int .u8 0, .int .u8 0, .int .u8 0, .int .u8 0, .int .u8 0, .int .u8 0, .int .u8 0, .int .u8 0, .int .u8 0, .int .u8 0, .int .u8 0, .int .u8 0, .int .u8 0, .int .u8 0, .int .u8 0, .int .u8 0, .int .u8 0, .int .u8 0, .int .u8 0, .int .u8 0, .int .u8 0, .int .u8 0, .int .u8 0, .int .u8 0, .int .u8 0, .int .u8 0, .int .u8 0, .int .u8 0, .int .u8 0, .bool B, .int .u8 0, .int .u8 0, .int .u8 0, .int .u8 0, .int .u8 0, .int .u8 0, .int .u8 0, .int .u8 0, .int .u8 0, .int .u8 0, .int .u8 0, .int .u8 0, .int .u8 0, .int .u8 0, .int .u8 0, .int .u8 0, .int .u8 0, .int .u8 0, .int .u8 0, .int .u8 0, .int .u8 0, .int .u8 0, .int .u8 0, .int .u8 0, .int .u8 0, .int .u8 0, .int .u8 0, .int .u8 0, .int .u8 0, .int .u8 0, .int .u8 0, .int .u8 0, .int .u8 0, .int .u8 0, .int .u8 0, .int .u8 0, .int .u8 0, .int .u8 0, .int .u8 0, .int .u8 0, .int .u8 0, .int .u8 0, .int .u8 0, .int .u8 0, .int .u8 0, .int .u8 0, .int .u8 0, .int .u8 0, .int .u8 0, .int .u8 0, .int .u8 0, .int .u8 0, .int .u8 0, .int .u8 0, .int .u8 0, .int .u8 0, .int .u8 0, .int .u8 0, .int .u8 0, .int .u8 0, .int .u8 0, .int .u8 0, .int .u8 0, .int .u8 0] := by kernel_rfl
 rw [e]
 unfold tryV
 rw [zero_key, zero_sig]
 rfl
theorem try_zero : (#[.string ⟨#[]⟩, .int .u8 0, .int .u8 0, .int .u8 0, .int .u8 0, .int .u8 0, .int .u8 0, .int .u8 0, .int .u8 0, .int .u8 0, .int .u8 0, .int .u8 0, .int .u8 0, .int .u8 0, .int .u8 0, .int .u8 0, .int .u8 0, .int .u8 0, .int .u8 0, .int .u8 0, .int .u8 0, .int .u8 0, .int .u8 0, .int .u8 0, .int .u8 0, .int .u8 0, .int .u8 0, .int .u8 0, .int .u8 0, .int .u8 0, .int .u8 0, .int .u8 0, .int .u8 0, .bool false, .int .u8 0, .int .u8 0, .int .u8 0, .int .u8 0, .int .u8 0, .int .u8 0, .int .u8 0, .int .u8 0, .int .u8 0, .int .u8 0, .int .u8 0, .int .u8 0, .int .u8 0, .int .u8 0, .int .u8 0, .int .u8 0, .int .u8 0, .int .u8 0, .int .u8 0, .int .u8 0, .int .u8 0, .int .u8 0, .int .u8 0, .int .u8 0, .int .u8 0, .int .u8 0, .int .u8 0, .int .u8 0, .int .u8 0, .int .u8 0, .int .u8 0, .int .u8 0, .int .u8 0, .int .u8 0, .int .u8 0, .int .u8 0, .int .u8 0, .int .u8 0, .int .u8 0, .int .u8 0, .int .u8 0, .int .u8 0, .int .u8 0, .int .u8 0, .int .u8 0, .int .u8 0, .int .u8 0, .int .u8 0, .int .u8 0, .int .u8 0, .int .u8 0, .int .u8 0, .int .u8 0, .int .u8 0, .int .u8 0, .int .u8 0, .int .u8 0, .int .u8 0, .int .u8 0, .int .u8 0, .int .u8 0, .int .u8 0, .int .u8 0, .int .u8 0] : Array Value) = tryV ⟨#[]⟩ (zB 32) false (zB 64) := by
 unfold tryV
 rw [zero_key, zero_sig]
 rfl
def mostN (n : Int) : Nat := (max 1 (min n 20)).toNat
theorem mostN_eq (n : Int) : max 1 (min n 20) = (mostN n : Int) := by unfold mostN; omega
theorem upd_lo {w w' : World} {B : Nat} (h : UpdP w w' (fun k => B ≤ k)) (hB : B ≤ w.heap.size) : Below B w w' := ⟨h.os, h.tape, h.output, h.size, fun k hk => h.block k (by omega) (by show ¬ B ≤ k; omega)⟩
theorem New_sv (w : World) (sb bo bw T K N : Nat) (L : List St.Pr) (h : St.IsSt w sb bo bw T K N L) (id : List UInt8) (n : Int) (hi : id.length = 32) :
 Calls prog 20 #[.pointer (some ⟨sb, 0, none⟩), .agg (bytesV id), .int .i64 n] w fun e w' => ∃ b, e = .returned (.pointer (some ⟨b, 0, none⟩)) ∧ w.heap.size ≤ b ∧ IsSv w' (fun k => w.heap.size ≤ k) b sb bo bw T K N L id (mostN n) ⟨false, 0, [], zB 32⟩ ∧ Below w.heap.size w w' := by
 obtain ⟨cs, hb, hc⟩ := built_sv sb id (mostN n) hi
 have HC := ϕ hc
 have HBU := ϕ hb
 have HS := ϕ h
 have HV := ϕ (show (bytesV id).size = 32 by rw [qa_, hi])
 have hm : max 1 (min n 20) = (mostN n : Int) := mostN_eq n
 clear h hb hc hi
 have tok := trivial
 go_enter func20, ntmps20
 go_upto_region 3 with ((with_reducible refine qd_ ?_); refine Rg.qh_ rfl 22 _ rfl (bytesV id) rfl ?_; intro V1 hK hbV hnV; have HI := ϕ hK; have HB1 := ϕ hbV; clear hK hbV hnV)
 obtain ⟨ib, hib⟩ : ∃ n, w.heap.size = n := exr
 have HI := ϕ (show Rg.Blk V1 ib 22 (bytesV id) from hib ▸ HI.out)
 have HWI := ϕ hib
 rw [hib]
 clear hib
 go_wp2_with (first
  | ((with_reducible refine qd_ ?_); refine Cv.qi_ rfl 22 _ rfl ib 0 rfl (bytesV id) _ (fun j v hv => by rw [Nat.zero_add]; exact Rg.Blk.cell HI.out j hv) underlying22 rfl (by rw [HV.out]; kernel_rfl) ?_)
  | ((with_reducible refine qd_ ?_); refine ji_ rfl 114 _ rfl #[(0, .pointer (some ⟨sb, 0, none⟩)), (1, .agg (bytesV id)), (2, .int .i64 (mostN n : Int))] (by go_simp; try (first | rfl | (simp only [hm]; done) | (simp [hm]; done))) cs HBU.out ?_)
  | ((with_reducible refine qd_ ?_); refine Rg.qh_ rfl 114 _ rfl cs rfl ?_; intro V2 hK hbV hnV; have HR := ϕ hK; have HB2 := ϕ hbV; clear hK hbV hnV))
 go_ret
 have hall := HB1.out.trans (HB2.out.mono HB1.out.size)
 refine ⟨_, rfl, HB1.out.size, ⟨⟨cs, HR.out, HC.out⟩, HB1.out.size, fun w2 h2 => HS.out.below (hall.trans (upd_lo h2 hall.size))⟩, hall⟩
theorem results_tct {P : Program} {fn : Func} {p u z : Tmp} {ty : TypeId} (h : fn.results = #[.tmp u, .cell p ty, .tmp z]) (tmps : Array Value) (w : World) (g : Nat) (t : TypeId) (cs : Array Value) (fr : Nat × Nat) (d : TypeDesc) (x y : Value)
 (hu1 : tmps.getD u undef = x) (hz1 : tmps.getD z undef = y) (hp : tmps.getD p undef = .pointer (some ⟨g, 0, none⟩)) (hg : w.heap[g]? = some (.cells cs t fr))
 (hu : P.underlying ty = some d) (hd : (match d with | .struct _ | .array _ _ => true | _ => false) = true) (hi : (P.info? ty).map (·.size) = some cs.size) :
 (results fn tmps).run P w = .ok (.tuple #[x, .agg cs, y]) w := by
 have hp' : tmps[p]?.getD undef = .pointer (some ⟨g, 0, none⟩) := by simpa using hp
 have hu' : tmps[u]?.getD undef = x := by simpa using hu1
 have hz' : tmps[z]?.getD undef = y := by simpa using hz1
 simp [results, h, hp', hu', hz', asAddr, run_loadVar_row w g t ty cs fr d hg hu hd hi]
theorem str_neB (t : List UInt8) : (!(mkS t).toList.isEmpty) = decide (t ≠ []) := by
 rw [ByteArray.toList_eq, show (mkS t).data.toList = t from mkS_list t]
 cases t <;> rfl
theorem In_any (w : World) (b : Nat) (cs : Array Value) (h : Rg.Blk w b 114 cs) (sb : Nat) (id : List UInt8) (most : Nat) (st : Sv) (hc : SvC cs sb id most st) :
 Calls prog 26 #[.pointer (some ⟨b, 0, none⟩)] w fun e w' => e = .returned (.tuple #[.string (mkS st.ten), .agg (bytesV st.key), .bool (decide (st.ten ≠ []))]) ∧ Below w.heap.size w w' := by
 have HC := ϕ hc
 have HS := ϕ h
 have HV := ϕ (show (bytesV st.key).size = 32 by rw [qa_, hc.kl])
 have HQ := ϕ (str_neB st.ten)
 have HL := ϕ h.lt
 clear h hc
 go_enter func26, ntmps26
 go_upto_region 1 with fail
 generalize hX : World.alloc w _ = X
 have HB := ϕ (show Below w.heap.size w X by subst hX; exact (Below.refl _ _).alloc (Nat.le_refl _) _)
 obtain ⟨rb, hrb⟩ : ∃ n, w.heap.size = n := exr
 have HR := ϕ (show ∃ cs : Array Value, cs.size = 32 ∧ Rg.Blk X rb 22 cs by subst hX; exact ⟨_, rfl, Rg.Blk.newAt hrb.symm _ _⟩)
 have HS := ϕ (HS.out.below HB.out HL.out)
 have HN := ϕ (show ¬ b = rb from fun e => by have := HL.out; omega)
 have HW := ϕ (show w.heap.size ≤ rb from Nat.le_of_eq hrb)
 rw [hrb]
 clear hX hrb
 refine RL.start (fun W => Sp.Upd X W [rb]) (by kernel_rfl) (Sp.Upd.trans (Sp.Upd.refl _ _) (Sp.Upd.of_below (Below.drew (Below.refl _ _))) (by simp)) ?_
 refine RL.tu 0 ?_; go_frame
 refine RL.tu 1 ?_; go_frame
 refine RL.tu 2 ?_; go_frame
 refine' RL.tv 3 ?hk4 ?_
 case hk4 => (intro W hSW; have c1 := (qk_ hSW HS.out (by simp; exact HN.out)).cell 36 (HC.out.ten); go_simp; try with_reducible rfl)
 try go_frame
 refine RL.tu 4 ?_; go_frame
 refine RL.tu 5 ?_; go_frame
 refine RL.tu 6 ?_; go_frame
 refine RL.tw 7 (v := .agg (bytesV st.key)) rfl (fun W hSW => qo_ 22 _ rfl b 37 rfl (bytesV st.key) (fun j v hv => Rg.Blk.cell (qk_ hSW HS.out (by simp; exact HN.out)) (37 + j) (HC.out.key j v hv)) underlying22 rfl (by rw [HV.out]; kernel_rfl)) ?_
 try go_frame
 refine RL.tu 8 ?_; go_frame
 refine RL.tu 9 ?_; go_frame
 refine RL.tu 10 ?_; go_frame
 refine' RL.tv 11 ?hk11 ?_
 case hk11 => (intro W hSW; have c1 := (qk_ hSW HS.out (by simp; exact HN.out)).cell 36 (HC.out.ten); go_simp; try with_reducible rfl)
 try go_frame
 refine RL.tu 12 ?_; go_frame
 refine RL.tu 13 ?_; go_frame
 refine RL.sk 14 (fun va hlva hsva K hK => ?_)
 obtain ⟨cz, hcz, hO⟩ := HR.out
 have hO := (hO.below (Below.drew (Below.refl _ _)) hO.lt).below hlva (by have := hO.lt; simpa using this)
 refine qg_ 22 _ _ rfl rb (bytesV st.key) cz 22 rfl (by rfl) hO (by rw [HV.out]; kernel_rfl) (by rw [hcz, HV.out]) (qn_ _) ?_
 intro Y hY hgY
 refine hK.out _ _ (Sp.Upd.trans hsva (Sp.Upd.of_grown1 hgY) (fun q hq => .inl hq)) ?_
 clear hK
 try go_frame
 refine RL.tu 15 ?_; go_frame
 refine RL.done (by kernel_rfl) (fun V hlV hsV => ?_)
 have HR2 := ϕ (show Rg.Blk V rb 22 (bytesV st.key) from Rg.Blk.below hY hlV hY.lt)
 have HB2 := ϕ (qm_ HB.out hsV (fun k hk => by simp at hk; rw [hk]; exact HW.out) HB.out.size)
 clear hO hY hgY hlva hsva hlV hsV hcz
 rw [HQ.out]
 go_wp2_with fail
 exact bodyPost_ret (v := .tuple #[.string (mkS st.ten), .agg (bytesV st.key), .bool (decide (st.ten ≠ []))])
  (results_tct results26 _ _ rb 22 _ (0, 0) _ _ _ rfl rfl rfl HR2.out underlying22 rfl (by rw [HV.out]; kernel_rfl)) rfl
  ⟨rfl, HB2.out⟩
theorem try_info : (prog.info? 116).map (·.size) = some 98 := by kernel_rfl
theorem txtS_le (s : ByteArray) (c : Nat) (m : Int) (h : s.size ≤ 1000000) : (txtS s c m).size ≤ 1000000 := Nat.le_trans (txtS_sz s c m) h
def ReadPost (s : ByteArray) (w : World) (e : Ending) (w' : World) : Prop :=
 ∃ X K B Z ev, e = .returned (.tuple #[.agg (tryV X K B Z), ev]) ∧ K.length = 32 ∧ Z.length = 64 ∧ Below w.heap.size w w' ∧
  ((RdOk s ∧ ev = .nilIface ∧ X = rdX s ∧ K = rdK s ∧ B = decide (rdB s ≠ 0) ∧ (rdB s ≠ 0 → Z = rdZ s)) ∨ (¬ RdOk s ∧ ∃ t p, ev = .iface t (.pointer (some p))))
theorem rd_T (w : World) (a : Nat → Addr) (hE : Ei.ErrsA w a) (s : ByteArray) (hs : s.size ≤ 1000000) (hB : (rdB s != 0) = true) (hEnd : rdE s = 0) (hKey : opC (rdX s) 32 10 = 0) (hWord : rdW s = algoB) (hSig : opC (rdG s) 64 11 = 0) :
 Calls prog 53 #[.string s] w (ReadPost s w) := by
 have hBn : rdB s ≠ 0 := by simpa using hB
 obtain ⟨s0, hs0⟩ : ∃ r, rdS0 s = r := exr
 obtain ⟨c0, hc0⟩ : ∃ r, rdC0 s = r := exr
 obtain ⟨r1, hr1⟩ : ∃ r, rdW s = r := exr
 obtain ⟨s1, hs1⟩ : ∃ r, rdS1 s = r := exr
 obtain ⟨c1, hc1⟩ : ∃ r, rdC1 s = r := exr
 obtain ⟨r2, hr2⟩ : ∃ r, rdX s = r := exr
 obtain ⟨s2, hs2⟩ : ∃ r, rdS2 s = r := exr
 obtain ⟨c2, hc2⟩ : ∃ r, rdC2 s = r := exr
 obtain ⟨r3, hr3⟩ : ∃ r, rdG s = r := exr
 obtain ⟨s3, hs3⟩ : ∃ r, rdS3 s = r := exr
 obtain ⟨c3, hc3⟩ : ∃ r, rdC3 s = r := exr
 obtain ⟨e3, he3⟩ : ∃ r, rdE s = r := exr
 have hz0 : s0.size ≤ 1000000 := by rw [← hs0]; exact Nat.le_trans (rawS_size _ _ _) hs
 have hz1 : s1.size ≤ 1000000 := by rw [← hs1]; unfold rdS1; rw [hs0]; exact txtS_le _ _ _ hz0
 have hz2 : s2.size ≤ 1000000 := by rw [← hs2]; unfold rdS2; rw [hs1]; exact txtS_le _ _ _ hz1
 have hx2 : r2.size ≤ 1000000 := by rw [← hr2]; unfold rdX; rw [hs1]; exact Nat.le_trans (txtR_size _ _ _) hz1
 have hx3 : r3.size ≤ 1000000 := by rw [← hr3]; unfold rdG; rw [if_pos hBn, hs2]; exact Nat.le_trans (txtR_size _ _ _) hz2
 have HTB := ϕ (show ∀ W b, Errs W (eB a) → Gl b → IsIn W b s (evV (eB a) 0) → Calls prog 91 #[.pointer (some ⟨b, 0, none⟩)] W (Gave (eB a) b W (.bool true) s0 c0) from fun W b h1 h2 h3 => by
  have := InBool_any W (eB a) b s 0 (by omega) h1 h2 h3
  rw [show (numV (rawR s 0 1).data.toList != 0) = true from hB, show rawS s 0 1 = s0 from hs0, show rawC s 0 1 = c0 from hc0] at this
  exact this)
 have HT1 := ϕ (show ∀ W b, Errs W (eB a) → Gl b → IsIn W b s0 (evV (eB a) c0) → Calls prog 92 #[.pointer (some ⟨b, 0, none⟩), .int .i64 s.size] W (Gave (eB a) b W (.string r1) s1 c1) from fun W b h1 h2 h3 => by
  have := InText_any W (eB a) b s0 c0 s.size (by omega) h1 h2 h3
  rw [← hs0, ← hc0, show txtR (rdS0 s) (rdC0 s) s.size = r1 from hr1, show txtS (rdS0 s) (rdC0 s) s.size = s1 from hs1, show txtC (rdS0 s) (rdC0 s) s.size = c1 from hc1] at this
  exact this)
 have HT2 := ϕ (show ∀ W b, Errs W (eB a) → Gl b → IsIn W b s1 (evV (eB a) c1) → Calls prog 92 #[.pointer (some ⟨b, 0, none⟩), .int .i64 s.size] W (Gave (eB a) b W (.string r2) s2 c2) from fun W b h1 h2 h3 => by
  have := InText_any W (eB a) b s1 c1 s.size (by omega) h1 h2 h3
  rw [← hs1, ← hc1, show txtR (rdS1 s) (rdC1 s) s.size = r2 from hr2, show txtS (rdS1 s) (rdC1 s) s.size = s2 from hs2, show txtC (rdS1 s) (rdC1 s) s.size = c2 from hc2] at this
  exact this)
 have HT3 := ϕ (show ∀ W b, Errs W (eB a) → Gl b → IsIn W b s2 (evV (eB a) c2) → Calls prog 92 #[.pointer (some ⟨b, 0, none⟩), .int .i64 s.size] W (Gave (eB a) b W (.string r3) s3 c3) from fun W b h1 h2 h3 => by
  have := InText_any W (eB a) b s2 c2 s.size (by omega) h1 h2 h3
  rw [← hs2, ← hc2, show txtR (rdS2 s) (rdC2 s) s.size = r3 by rw [← hr3]; unfold rdG; rw [if_pos hBn], show txtS (rdS2 s) (rdC2 s) s.size = s3 by rw [← hs3]; unfold rdS3; rw [if_pos hBn], show txtC (rdS2 s) (rdC2 s) s.size = c3 by rw [← hc3]; unfold rdC3; rw [if_pos hBn]] at this
  exact this)
 have HEN := ϕ (show ∀ W b, Errs W (eB a) → Gl b → IsIn W b s3 (evV (eB a) c3) → Calls prog 93 #[.pointer (some ⟨b, 0, none⟩)] W fun e w' => e = .returned (.nilIface) ∧ W.grownBy w' (some b) from fun W b h1 h2 h3 => by
  refine (InEnd_any W (eB a) b s3 c3 h1 h2 h3).mono fun e w' ⟨h4, _, h5⟩ => ⟨?_, h5⟩
  rw [h4, ← hs3, ← hc3, show endC (rdS3 s) (rdC3 s) = e3 from he3]
  rw [he3] at hEnd
  rw [hEnd]; rfl)
 have HER := ϕ (fun W (hW : Below w.heap.size w W) => errsB (hE.below hW))
 have HGL := ϕ (fun (b : Nat) (hb : w.heap.size ≤ b) => (errsB hE).gl hb)
 have HZS := ϕ (tryV_size ⟨#[]⟩ false (jt_ 32) (jt_ 64))
 have HKL := ϕ (show (rdK s).length = 32 by
  have := (opR_size (rdX s) 32 10 (by decide) hKey)
  rw [this.2] at this
  show (opX (rdX s)).data.toList.length = 32
  rw [qu_]; exact this.1)
 obtain ⟨K, hK⟩ : ∃ K, rdK s = K := exr
 have HKB := ϕ (show ∀ W, Below w.heap.size w W → Calls prog 94 #[.string r2] W fun e w' => e = .returned (.tuple #[.agg (bytesV K), .nilIface]) ∧ Below W.heap.size W w' from fun W hW => by
  have := BlobKey_ok W a (hE.below hW) r2 hx2 (by rw [← hr2]; exact hKey)
  rw [← hr2] at this ⊢
  rw [← hK]
  exact this)
 rw [hK] at HKL
 have HKV := ϕ (show (bytesV K).size = 32 by rw [qa_, HKL.out])
 have HZL := ϕ (show (rdZ s).length = 64 by
  have := (opR_size (rdG s) 64 11 (by decide) hSig)
  rw [this.2] at this
  show (opX (rdG s)).data.toList.length = 64
  rw [qu_]; exact this.1)
 obtain ⟨G, hG⟩ : ∃ G, rdZ s = G := exr
 have HSB := ϕ (show ∀ W, Below w.heap.size w W → Calls prog 95 #[.string r3] W fun e w' => e = .returned (.tuple #[.agg (bytesV G), .nilIface]) ∧ Below W.heap.size W w' from fun W hW => by
  have := BlobSign_ok W a (hE.below hW) r3 hx3 (by rw [← hr3]; exact hSig)
  rw [← hr3] at this ⊢
  rw [← hG]
  exact this)
 rw [hG] at HZL
 have HGV := ϕ (show (bytesV G).size = 64 by rw [qa_, HZL.out])
 have HOK := ϕ (show RdOk s from ⟨hEnd, hKey, hWord, fun e => hSig⟩)
 have HX := ϕ (show r2 = rdX s from hr2.symm)
 have HKQ := ϕ (show K = rdK s from hK.symm)
 have HBQ := ϕ (show true = decide (rdB s ≠ 0) by simpa using hBn)
 have HGQ := ϕ (show rdB s ≠ 0 → G = rdZ s from fun _ => hG.symm)
 have HWD := ϕ (show r1 = algoB from hr1 ▸ hWord)
 clear hr1 hr2 hr3 hs0 hs1 hs2 hs3 hc0 hc1 hc2 hc3 he3 hz0 hz1 hz2 hx2 hx3 hE hs hB hBn hEnd hKey hWord hSig hK hG
 go_enter func53, ntmps53
 go_upto_region 1 with (fail)
 generalize hX : World.alloc w _ = X
 have HB := ϕ (show Below w.heap.size w X by subst hX; exact (Below.refl _ _).alloc (Nat.le_refl _) _)
 obtain ⟨rb, hrb⟩ : ∃ n, w.heap.size = n := exr
 have HR := ϕ (show Rg.Blk X rb 116 (tryV ⟨#[]⟩ (zB 32) false (zB 64)) by subst hX; rw [← try_zero]; exact Rg.Blk.newAt hrb.symm _ _)
 have HWR := ϕ (show w.heap.size ≤ rb from Nat.le_of_eq hrb)
 rw [hrb]
 clear hX hrb
 obtain ⟨ib, hib⟩ : ∃ n, X.heap.size = n := exr
 have HWI := ϕ (show w.heap.size ≤ ib from hib ▸ HB.out.size)
 have HRI := ϕ (show ¬ ib = rb from fun e => by have := HR.out.lt; omega)
 go_upto_region 2 with (go_at_call 90; refine (Wi.Of_any _ s).mono ?_; rintro e w1 ⟨rfl, h1, hb1⟩; have HI := ϕ (show IsIn w1 ib s (evV (eB a) 0) by rw [evV_zero, ← hib]; exact h1); have HR := ϕ (HR.out.below hb1 HR.out.lt); have HB := tm HB hb1; clear h1 hb1)
 try rw [hib]
 clear hib
 have HGI := ϕ (HGL.out ib HWI.out)
 have HS0 := ϕ (tryV_size ⟨#[]⟩ true (jt_ 32) (jt_ 64))
 go_upto_region 3 with (first
  | (go_at_call 91; refine (HTB.out _ _ (HER.out _ HB.out) HGI.out HI.out).mono ?_; rintro e w2 ⟨rfl, h2, hg2⟩; have HI := ϕ h2; have HR := ϕ (qb_ HR.out hg2 HRI.out); have HB := ϕ (HB.out.grown hg2 HB.out.size (fun k hk => by cases hk; exact HWI.out)); clear h2 hg2)
  | ((with_reducible refine qd_ ?_); refine ji_ rfl 116 _ rfl #[(2, .bool true)] (by go_simp; try rfl) (tryV ⟨#[]⟩ (zB 32) true (zB 64)) (built_try true) ?_)
  | ((with_reducible refine qd_ ?_); refine Rg.qf_ rfl 116 _ _ rfl (tryV ⟨#[]⟩ (zB 32) true (zB 64)) _ 116 rfl rfl (by rw [HS0.out]; exact try_info) (by rw [HS0.out]; rfl) (tryV_one _ _ _ _) ?_; intro w3 hX hbX; have HT := ϕ hX; have HIN := ϕ HI.out.lt; have HRN := ϕ HR.out.lt; have HI := ϕ (show IsIn w3 ib s0 (evV (eB a) c0) from Rg.Blk.below HI.out hbX HI.out.lt); have HR := ϕ (HR.out.below hbX HR.out.lt); have HWT := ϕ HB.out.size; have HB := tm HB hbX; clear hX hbX))
 obtain ⟨tb, htb⟩ : ∃ n, w2.heap.size = n := exr
 have HT := ϕ (show Rg.Blk w3 tb 116 (tryV ⟨#[]⟩ (zB 32) true (zB 64)) from htb ▸ HT.out)
 have HIT := ϕ (show ¬ ib = tb from fun e => by have := HIN.out; omega)
 have HTI := ϕ (fun e : tb = ib => HIT.out e.symm)
 have HTR := ϕ (show ¬ tb = rb from fun e => by have := HRN.out; omega)
 have HWT := ϕ (show w.heap.size ≤ tb from htb ▸ HWT.out)
 try rw [htb]
 clear htb HIN HRN
 go_upto_region 4 with (go_at_call 92; refine (HT1.out _ _ (HER.out _ HB.out) HGI.out HI.out).mono ?_; rintro e w4 ⟨rfl, h2, hg2⟩; have HI := ϕ h2; have HT := ϕ (qb_ HT.out hg2 HIT.out); have HR := ϕ (qb_ HR.out hg2 HRI.out); have HB := ϕ (HB.out.grown hg2 HB.out.size (fun k hk => by cases hk; exact HWI.out)); clear h2 hg2)
 have HS1 := ϕ (tryV_size r2 true (jt_ 32) (jt_ 64))
 go_upto_region 5 with (first
  | (go_at_call 92; refine (HT2.out _ _ (HER.out _ HB.out) HGI.out HI.out).mono ?_; rintro e w5 ⟨rfl, h2, hg2⟩; have HI := ϕ h2; have HT := ϕ (qb_ HT.out hg2 HIT.out); have HR := ϕ (qb_ HR.out hg2 HRI.out); have HB := ϕ (HB.out.grown hg2 HB.out.size (fun k hk => by cases hk; exact HWI.out)); clear h2 hg2)
  | ((with_reducible refine qd_ ?_); refine store_one rfl 9 _ _ rfl tb 0 (.string r2) (tryV ⟨#[]⟩ (zB 32) true (zB 64)) 116 rfl rfl rfl HT.out (by kernel_rfl) (by rw [HS0.out]; decide) rfl ?_; intro w6 hV hgV; have HT := ϕ (show Rg.Blk w6 tb 116 (tryV r2 (zB 32) true (zB 64)) from tryV_setX _ r2 _ _ _ ▸ hV); have HR := ϕ (qb_ HR.out hgV HTR.out); have HI := ϕ (show IsIn w6 ib s2 (evV (eB a) c2) from qb_ HI.out hgV HTI.out); have HB := ϕ (HB.out.grown hgV HB.out.size (fun k hk => by cases hk; exact HWT.out)); clear hV hgV))
 have cb := HT.out.cell 33 (tryV_b r2 true (zB 64) (jt_ 32))
 go_upto_region 7 with fail
 clear cb
 go_upto_region 8 with (go_at_call 92; refine (HT3.out _ _ (HER.out _ HB.out) HGI.out HI.out).mono ?_; rintro e w7 ⟨rfl, h2, hg2⟩; have HI := ϕ h2; have HT := ϕ (qb_ HT.out hg2 HIT.out); have HR := ϕ (qb_ HR.out hg2 HRI.out); have HB := ϕ (HB.out.grown hg2 HB.out.size (fun k hk => by cases hk; exact HWI.out)); clear h2 hg2)
 go_upto_region 9 with (go_at_call 93; refine (HEN.out _ _ (HER.out _ HB.out) HGI.out HI.out).mono ?_; rintro e w8 ⟨rfl, hg2⟩; have HT := ϕ (qb_ HT.out hg2 HIT.out); have HR := ϕ (qb_ HR.out hg2 HRI.out); have HB := ϕ (HB.out.grown hg2 HB.out.size (fun k hk => by cases hk; exact HWI.out)); clear hg2)
 clear HI HTB HT1 HT2 HEN HER HGL HGI
 go_upto_region 11 with fail
 have cx := HT.out.cell 0 (tryV_0 r2 (zB 32) true (zB 64))
 go_upto_region 12 with (first
  | (go_at_call 94; refine (HKB.out _ HB.out).mono ?_; rintro e w9 ⟨rfl, hb9⟩; have HT := ϕ (HT.out.below hb9 HT.out.lt); have HR := ϕ (HR.out.below hb9 HR.out.lt); have HB := tm HB hb9; clear hb9 cx)
  | ((with_reducible refine qd_ ?_); refine Rg.qf_ rfl 22 _ _ rfl (bytesV K) _ 22 rfl rfl (by rw [HKV.out]; kernel_rfl) (by rw [HKV.out]; rfl) (qn_ _) ?_; intro w10 hX hbX; have HK := ϕ hX; have HTN := ϕ HT.out.lt; have HRN := ϕ HR.out.lt; have HT := ϕ (HT.out.below hbX HT.out.lt); have HR := ϕ (HR.out.below hbX HR.out.lt); have HB := tm HB hbX; clear hX hbX))
 obtain ⟨kb, hkb⟩ : ∃ n, w9.heap.size = n := exr
 have HK := ϕ (show Rg.Blk w10 kb 22 (bytesV K) from hkb ▸ HK.out)
 try rw [hkb]
 clear hkb HTN HRN
 have hw := HWD.out
 subst hw
 have k0 := algo_list
 go_upto_region 14 with fail
 clear k0
 have HS2 := ϕ (tryV_size r2 true HKL.out (jt_ 64))
 go_upto_region 15 with (first
  | ((with_reducible refine qd_ ?_); refine Cv.qi_ rfl 22 _ rfl kb 0 rfl (bytesV K) _ (fun j v hv => by rw [Nat.zero_add]; exact Rg.Blk.cell HK.out j hv) underlying22 rfl (by rw [HKV.out]; kernel_rfl) ?_)
  | ((with_reducible refine qd_ ?_); refine store_part rfl 22 _ _ rfl tb 1 (bytesV K) (tryV r2 (zB 32) true (zB 64)) (tryV r2 K true (zB 64)) 116 rfl rfl HT.out (by rw [HKV.out]; kernel_rfl) (by rw [HKV.out, HS1.out]; decide) (qn_ _) (tryV_setK _ _ _ (jt_ 32) HKL.out) ?_; intro w11 hV hgV; have HT := ϕ hV; have HR := ϕ (qb_ HR.out hgV HTR.out); have HB := ϕ (HB.out.grown hgV HB.out.size (fun k hk => by cases hk; exact HWT.out)); clear hV hgV))
 clear HK
 have cb := HT.out.cell 33 (tryV_b r2 true (zB 64) HKL.out)
 go_upto_region 16 with fail
 clear cb
 have HSF := ϕ (tryV_size r2 true HKL.out HZL.out)
 go_upto_region 17 with (first
  | (go_at_call 95; refine (HSB.out _ HB.out).mono ?_; rintro e w12 ⟨rfl, hb9⟩; have HT := ϕ (HT.out.below hb9 HT.out.lt); have HR := ϕ (HR.out.below hb9 HR.out.lt); have HB := tm HB hb9; clear hb9)
  | ((with_reducible refine qd_ ?_); refine store_part rfl 29 _ _ rfl tb 34 (bytesV G) (tryV r2 K true (zB 64)) (tryV r2 K true G) 116 rfl rfl HT.out (by rw [HGV.out]; kernel_rfl) (by rw [HGV.out, HS2.out]; decide) (qn_ _) (tryV_setZ _ _ HKL.out (jt_ 64) HZL.out) ?_; intro w13 hV hgV; have HT := ϕ hV; have HR := ϕ (qb_ HR.out hgV HTR.out); have HB := ϕ (HB.out.grown hgV HB.out.size (fun k hk => by cases hk; exact HWT.out)); clear hV hgV))
 go_wp2_with (first
  | ((with_reducible refine qd_ ?_); refine Cv.qi_ rfl 116 _ rfl tb 0 rfl (tryV r2 K true G) _ (fun j v hv => by rw [Nat.zero_add]; exact Rg.Blk.cell HT.out j hv) underlying116 rfl (by rw [HSF.out]; exact try_info) ?_)
  | ((with_reducible refine qd_ ?_); refine qs_ rfl 116 _ _ rfl rb (tryV r2 K true G) (tryV ⟨#[]⟩ (zB 32) false (zB 64)) 116 rfl rfl HR.out (by rw [HSF.out]; exact try_info) (by rw [HSF.out, HZS.out]) (tryV_one _ _ _ _) ?_; intro w14 hV hgV; have HR := ϕ hV; have HB := ϕ (HB.out.grown hgV HB.out.size (fun k hk => by cases hk; exact HWR.out)); clear hV hgV))
 refine bodyPost_ret (v := .tuple #[.agg (tryV r2 K true G), .nilIface])
  (Bl.jk_ results53 _ _ rb 116 _ (0, 0) _ rfl HR.out underlying116 rfl (by rw [HSF.out]; exact try_info)) rfl ?_
 exact ⟨r2, K, true, G, .nilIface, rfl, HKL.out, HZL.out, HB.out, .inl ⟨HOK.out, rfl, HX.out, HKQ.out, HBQ.out, HGQ.out⟩⟩
end Au
namespace Mg
open Go.RowKit Go.Proofs.YtciibogkfbicfaaGreatDoor.Wi Go.Proofs.YtciibogkfbicfaaGreatDoor.Ow Go.Proofs.YtciibogkfbicfaaGreatDoor.Cl
def mC (kind : Int) (u s n b : Value) : Array Value := #[.int .i64 kind, u, s, n, b]
theorem s_any (w : World) (fb : Nat) (kind : Int) (b o n c : Nat) (x : ByteArray) (vu vn vb : Value) (h : Rg.Blk w fb 129 (mC kind vu (.slice (some ⟨b, o, none⟩) (n + 1) c) vn vb)) (hx : w.cell? ⟨b, o, none⟩ = some (.string x)) (hc : n + 1 ≤ c) (hm : c ≤ maxLen) :
 Calls prog 62 #[.pointer (some ⟨fb, 0, none⟩)] w fun e w' => e = .returned (.string x) ∧ (∃ A', Rg.Blk w' fb 129 (mC kind vu (.slice A' n (c - 1)) vn vb) ∧ (n ≠ 0 → A' = some ⟨b, o + 1, none⟩)) ∧ w.grownBy w' (some fb) := by
 have H := ϕ h
 have c1 := h.cell 2 (v := .slice (some ⟨b, o, none⟩) (n + 1) c) rfl
 have hI : (0 : Int) < (n : Int) + 1 := by omega
 have hI2 : (1 : Int) ≤ (n : Int) + 1 := by omega
 have hI3 : ((n + 1 : Nat) : Int) ≤ c := by omega
 unfold maxLen at hm
 clear h
 by_cases h1 : c = 1
 · subst h1
   have hn : n = 0 := by omega
   subst hn
   go_enter func62, ntmps62
   go_wp2_with (first
    | (refine store_slice rfl 31 _ _ rfl rfl rfl underlying31 (by kernel_rfl) H.out rfl ?_
       intro V hV hgV
       have HV := ϕ hV
       have HG := ϕ hgV
       clear hV hgV))
   go_ret
   exact ⟨rfl, ⟨some ⟨b, o, none⟩, HV.out, fun e => by first | rfl | exact absurd rfl e⟩, HG.out⟩
 · have h2 : (1 : Int) < c := by omega
   go_enter func62, ntmps62
   go_wp2_with (first
    | (refine store_slice rfl 31 _ _ rfl rfl rfl underlying31 (by kernel_rfl) H.out rfl ?_
       intro V hV hgV
       have HV := ϕ hV
       have HG := ϕ hgV
       clear hV hgV))
   go_ret
   exact ⟨rfl, ⟨some ⟨b, o + 1, none⟩, HV.out, fun e => by first | rfl | exact absurd rfl e⟩, HG.out⟩
theorem n_any (w : World) (fb : Nat) (kind : Int) (b o n c : Nat) (xa : Option Addr) (xn xc : Nat) (vu vs vb : Value) (h : Rg.Blk w fb 129 (mC kind vu vs (.slice (some ⟨b, o, none⟩) (n + 1) c) vb)) (hx : w.cell? ⟨b, o, none⟩ = some (.slice xa xn xc)) (hc : n + 1 ≤ c) (hm : c ≤ maxLen) :
 Calls prog 64 #[.pointer (some ⟨fb, 0, none⟩)] w fun e w' => e = .returned (.slice xa xn xc) ∧ (∃ A', Rg.Blk w' fb 129 (mC kind vu vs (.slice A' n (c - 1)) vb) ∧ (n ≠ 0 → A' = some ⟨b, o + 1, none⟩)) ∧ w.grownBy w' (some fb) := by
 have H := ϕ h
 have c1 := h.cell 3 (v := .slice (some ⟨b, o, none⟩) (n + 1) c) rfl
 have hI : (0 : Int) < (n : Int) + 1 := by omega
 have hI2 : (1 : Int) ≤ (n : Int) + 1 := by omega
 have hI3 : ((n + 1 : Nat) : Int) ≤ c := by omega
 unfold maxLen at hm
 clear h
 by_cases h1 : c = 1
 · subst h1
   have hn : n = 0 := by omega
   subst hn
   go_enter func64, ntmps64
   go_wp2_with (first
    | (refine store_slice rfl 33 _ _ rfl rfl rfl underlying33 (by kernel_rfl) H.out rfl ?_
       intro V hV hgV
       have HV := ϕ hV
       have HG := ϕ hgV
       clear hV hgV))
   go_ret
   exact ⟨rfl, ⟨some ⟨b, o, none⟩, HV.out, fun e => by first | rfl | exact absurd rfl e⟩, HG.out⟩
 · have h2 : (1 : Int) < c := by omega
   go_enter func64, ntmps64
   go_wp2_with (first
    | (refine store_slice rfl 33 _ _ rfl rfl rfl underlying33 (by kernel_rfl) H.out rfl ?_
       intro V hV hgV
       have HV := ϕ hV
       have HG := ϕ hgV
       clear hV hgV))
   go_ret
   exact ⟨rfl, ⟨some ⟨b, o + 1, none⟩, HV.out, fun e => by first | rfl | exact absurd rfl e⟩, HG.out⟩
open Go.Proofs.YtciibogkfbicfaaGreatDoor.Be
theorem names_any (w : World) (A : Option Addr) (n c : Nat) (xs : List ByteArray) (hn : xs.length = n) (hc : n ≤ c) (hN : n ≤ 1000000) (hR : Rd w A (xs.map Value.string)) (hx : ∀ x ∈ xs, x.size ≤ 9223372036854775807) (hj : (joinC xs).length ≤ 1000000) :
 Calls prog 63 #[.slice A n c] w fun e w' => e = .returned (.tuple #[.bool (xs.all okN), .bool (!(xs.all okN) || decide ((joinC xs).length ≤ 4096))]) ∧ Below w.heap.size w w' := by
 have HN := ϕ hn
 have HR := ϕ hR
 have HX := ϕ hx
 have HJ : Hid (Calls prog 105 #[.slice A n c, .string ⟨#[44]⟩] w fun e w' => e = .returned (.string ⟨(joinC xs).toArray⟩) ∧ Below w.heap.size w w') := ϕ (by
  subst hn
  by_cases h0 : xs = []
  · subst h0
    refine (Tryz.strings_Join_none A c ⟨#[44]⟩ w).mono ?_
    rintro e w' ⟨rfl, rfl⟩
    exact ⟨rfl, Below.refl _ _⟩
  · obtain ⟨bk, o, rfl, hlt, hx⟩ := hR.place (by rw [List.length_map]; exact List.length_pos_iff.2 h0)
    exact Tryz.strings_Join bk o c xs ⟨#[44]⟩ w (fun j x hj => hx j _ (by rw [List.getElem?_map, hj]; rfl)) hlt (by omega) hc (by show (joinC xs).length ≤ _; omega))
 obtain ⟨t, ht⟩ : ∃ t, mkS (joinC xs) = t := exr
 have hts : t.size = (joinC xs).length := by rw [← ht, mkS_size]
 have HJ2 : Hid (Calls prog 105 #[.slice A n c, .string ⟨#[44]⟩] w fun e w' => e = .returned (.string t) ∧ Below w.heap.size w w') := ϕ (by rw [← ht]; exact HJ.out)
 have HTS := ϕ hts
 clear hn hR hx hj ht hts HJ
 go_enter func63, ntmps63
 go_wp2_with fail
 go_loop [8] (fun i => ∃ k : Nat, k ≤ n ∧ i = .int .i64 k ∧ (xs.take k).all okN = true) (fun i => n - (intOf i).toNat)
 case atStart => exact ⟨0, Nat.zero_le _, rfl, rfl⟩
 case round =>
  obtain ⟨k, hk, rfl, hall⟩ := hrel
  have HAL := ϕ hall
  clear hall
  by_cases hkn : k < n
  · have hd : decide (k < n) = true := by simp; exact hkn
    have hik : (k : Int) < n := by omega
    have hx : xs[k]? = some (xs[k]'(by rw [HN.out]; exact hkn)) := List.getElem?_eq_getElem _
    have hxs := HX.out _ (List.getElem_mem (l := xs) (n := k) (by rw [HN.out]; exact hkn))
    obtain ⟨b, o, rfl, _, hcell⟩ := HR.out.at_ (j := k) (by rw [List.length_map, HN.out]; exact hkn)
    rw [List.getElem_map] at hcell
    generalize xs[k]'(by rw [HN.out]; exact hkn) = x at *
    have HXK := ϕ hx
    have HXS := ϕ hxs
    clear hx hxs
    cases hok : okN x
    · have HB := ϕ (all_bad xs k x HXK.out hok)
      have HOK := ϕ (show nameB x.data.toList = false from hok)
      clear hok
      go_wp2_with (go_at_call 104; refine (Name_any _ x HXS.out).mono ?_; rintro e w3 ⟨rfl, rfl⟩; skip; rw [HOK.out])
      go_ret2
      exact ⟨by rw [HB.out]; rfl, Below.refl _ _⟩
    · have HT := ϕ (all_take xs k x HXK.out HAL.out hok)
      have HOK := ϕ (show nameB x.data.toList = true from hok)
      clear hok
      go_wp2_with (go_at_call 104; refine (Name_any _ x HXS.out).mono ?_; rintro e w3 ⟨rfl, rfl⟩; skip; rw [HOK.out])
      go_round
      case rel => exact ⟨k + 1, by omega, by go_num, HT.out⟩
      case measure => simp [intOf]; omega
  · obtain rfl : k = n := by omega
    have hd : decide (k < k) = false := by simp
    have HA := ϕ (show xs.all okN = true by have := HAL.out; rwa [List.take_of_length_le (Nat.le_of_eq HN.out)] at this)
    go_wp2_with (go_at_call 105; refine HJ2.out.mono ?_; rintro e w3 ⟨rfl, hb3⟩; have HB3 := ϕ hb3; clear hb3)
    go_ret2
    refine ⟨?_, HB3.out⟩
    rw [HA.out, ← HTS.out]
    simp
    omega
theorem run_index_agg {P : Program} (w : World) (xT E : TypeId) (n sz : Nat) (cs : Array Value) (k : Nat) (d : TypeDesc) (hu : P.underlying xT = some (.array n E)) (hi : (P.info? E).map (·.size) = some sz) (hE : P.underlying E = some d) (hd : (match d with | .struct _ | .array _ _ => true | _ => false) = true) (hk : k < n) :
 (Instr.index xT (.agg cs) (.int .i64 k)).run P w = .ok (.agg (cs.extract (k * sz) (k * sz + sz))) w := by
 cases hq : P.info? E with
 | none => simp [hq] at hi
 | some i =>
  have hs : i.size = sz := by simpa [hq] using hi
  have hagg : (isAgg E).run P w = .ok true w := by
   unfold isAgg
   rw [Sem.run_bind, run_underlying hE w]
   cases d <;> simp_all
  unfold Instr.index
  simp [asIntOf, Sem.run_bind, run_underlying hu, sizeOf, typeInfo, hq, hs, part, hagg, hk]
def rowC (r : Nat × List UInt8 × List UInt8) : List Value := [.int .i64 (r.1 : Int), .string (mkS r.2.1), .string (mkS r.2.2)]
@[irreducible] def rowsV : Array Value := (rowsL.flatMap rowC).toArray
theorem rowsV_size : rowsV.size = 87 := by unfold rowsV; rfl
theorem rowsV_at : ∀ (k : Nat), k < 29 → ∃ r, rowsL[k]? = some r ∧ rowsV.extract (k * 3) (k * 3 + 3) = #[.int .i64 (r.1 : Int), .string (mkS r.2.1), .string (mkS r.2.2)]
 | 0, _ => ⟨_, rfl, by unfold rowsV; rfl⟩
 | 1, _ => ⟨_, rfl, by unfold rowsV; rfl⟩
 | 2, _ => ⟨_, rfl, by unfold rowsV; rfl⟩
 | 3, _ => ⟨_, rfl, by unfold rowsV; rfl⟩
 | 4, _ => ⟨_, rfl, by unfold rowsV; rfl⟩
 | 5, _ => ⟨_, rfl, by unfold rowsV; rfl⟩
 | 6, _ => ⟨_, rfl, by unfold rowsV; rfl⟩
 | 7, _ => ⟨_, rfl, by unfold rowsV; rfl⟩
 | 8, _ => ⟨_, rfl, by unfold rowsV; rfl⟩
 | 9, _ => ⟨_, rfl, by unfold rowsV; rfl⟩
 | 10, _ => ⟨_, rfl, by unfold rowsV; rfl⟩
 | 11, _ => ⟨_, rfl, by unfold rowsV; rfl⟩
 | 12, _ => ⟨_, rfl, by unfold rowsV; rfl⟩
 | 13, _ => ⟨_, rfl, by unfold rowsV; rfl⟩
 | 14, _ => ⟨_, rfl, by unfold rowsV; rfl⟩
 | 15, _ => ⟨_, rfl, by unfold rowsV; rfl⟩
 | 16, _ => ⟨_, rfl, by unfold rowsV; rfl⟩
 | 17, _ => ⟨_, rfl, by unfold rowsV; rfl⟩
 | 18, _ => ⟨_, rfl, by unfold rowsV; rfl⟩
 | 19, _ => ⟨_, rfl, by unfold rowsV; rfl⟩
 | 20, _ => ⟨_, rfl, by unfold rowsV; rfl⟩
 | 21, _ => ⟨_, rfl, by unfold rowsV; rfl⟩
 | 22, _ => ⟨_, rfl, by unfold rowsV; rfl⟩
 | 23, _ => ⟨_, rfl, by unfold rowsV; rfl⟩
 | 24, _ => ⟨_, rfl, by unfold rowsV; rfl⟩
 | 25, _ => ⟨_, rfl, by unfold rowsV; rfl⟩
 | 26, _ => ⟨_, rfl, by unfold rowsV; rfl⟩
 | 27, _ => ⟨_, rfl, by unfold rowsV; rfl⟩
 | 28, _ => ⟨_, rfl, by unfold rowsV; rfl⟩
 | n + 29, h => absurd h (by omega)
def TabR (w : World) : Prop := ∀ (j : Nat) (v : Value), rowsV[j]? = some v → w.cell? ⟨20, j, none⟩ = some v
theorem TabR.below {w w' : World} (h : TabR w) (hb : Below w.heap.size w w') : TabR w' := fun j v hv => (hb.cell (p := ⟨20, j, none⟩) (World.block_lt_of_cell? _ _ (h j v hv))).trans (h j v hv)
theorem TabR.alloc {w : World} (h : TabR w) (o : Obj) : TabR (w.alloc o) := h.below ((Below.refl _ _).alloc (Nat.le_refl _) o)
structure ErrsM (w : World) (a : Nat → Addr) : Prop where
 cell : ∀ k, (k < 4 ∨ k = 19) → w.cell? ⟨Ei.errG.getD k 0, 0, none⟩ = some (.iface 271 (.pointer (some (a (k + 1)))))
theorem ErrsM.below {w w' : World} {a : Nat → Addr} (h : ErrsM w a) (hb : Below w.heap.size w w') : ErrsM w' a := ⟨fun k hk => (hb.cell (World.block_lt_of_cell? w _ (h.cell k hk))).trans (h.cell k hk)⟩
theorem ErrsM.of {w : World} {a : Nat → Addr} (h : Ei.ErrsAll w a) : ErrsM w a := ⟨fun k hk => h.cell k (by omega)⟩
def rowZ (k : Int) : Array Value := match rowOf k with
 | some r => #[.int .i64 (r.1 : Int), .string (mkS r.2.1), .string (mkS r.2.2)]
 | none => #[.int .i64 0, .string ⟨#[]⟩, .string ⟨#[]⟩]
theorem rowOf_drop (k : Int) (j : Nat) (r : Nat × List UInt8 × List UInt8) (hr : rowsL[j]? = some r) (h : rowOf k = (rowsL.drop j).find? fun r => decide ((r.1 : Int) = k)) :
 ((r.1 : Int) = k → rowOf k = some r) ∧ ((r.1 : Int) ≠ k → rowOf k = (rowsL.drop (j + 1)).find? fun r => decide ((r.1 : Int) = k)) := by
 have hl : j < rowsL.length := (List.getElem?_eq_some_iff.1 hr).1
 have he : rowsL.drop j = r :: rowsL.drop (j + 1) := by
  rw [List.drop_eq_getElem_cons hl]
  congr 1
  exact (List.getElem?_eq_some_iff.1 hr).2
 rw [he, List.find?_cons] at h
 refine ⟨fun hk => ?_, fun hk => ?_⟩
 · rw [h]; simp [hk]
 · rw [h]; simp [hk]
theorem find_any (w : World) (k : Int) (hT : TabR w) :
 Calls prog 101 #[.int .i64 k] w fun e w' => e = .returned (.tuple #[.agg (rowZ k), .bool (isK k)]) ∧ Below w.heap.size w w' := by
 have HT := ϕ hT
 clear hT
 go_enter func101, ntmps101
 go_wp2_with (refine Cv.qi_ rfl 218 _ rfl 20 0 rfl rowsV _ (fun j v hv => by rw [Nat.zero_add]; exact HT.out.alloc _ j v hv) underlying218 rfl (by rw [rowsV_size]; kernel_rfl) ?_; skip)
 have hB2 : Rg.Blk (w.alloc (.cells #[.int .i64 0, .string ⟨#[]⟩, .string ⟨#[]⟩] 171)) w.heap.size 171 #[.int .i64 0, .string ⟨#[]⟩, .string ⟨#[]⟩] := Rg.Blk.new w _ _
 have hXW : Below w.heap.size w (w.alloc (.cells #[.int .i64 0, .string ⟨#[]⟩, .string ⟨#[]⟩] 171)) := (Below.refl _ _).alloc (Nat.le_refl _) _
 have hXZ : (w.alloc (.cells #[.int .i64 0, .string ⟨#[]⟩, .string ⟨#[]⟩] 171)).heap.size = w.heap.size + 1 := by simp
 generalize w.alloc (.cells #[.int .i64 0, .string ⟨#[]⟩, .string ⟨#[]⟩] 171) = X at *
 have HB2 := ϕ hB2
 have HXW := ϕ hXW
 have HXZ := ϕ hXZ
 clear hB2 hXW hXZ
 go_loopw [7] (fun i wr => ∃ j : Nat, j ≤ 29 ∧ i = .int .i64 j ∧ (rowOf k = (rowsL.drop j).find? fun r => decide ((r.1 : Int) = k)) ∧ Below X.heap.size X wr) (fun i _ => 30 - (intOf i).toNat)
 case atStart => exact ⟨0, by decide, rfl, rfl, Below.refl _ _⟩
 case round =>
  obtain ⟨j, hj, rfl, hrow, hb⟩ := hrel
  have HROW := ϕ hrow
  have HB := ϕ hb
  have hb2 := HB2.out.below hb HB2.out.lt
  have p0 := hb2.cell 0 (v := .int .i64 0) rfl
  have p1 := hb2.cell 1 (v := .string ⟨#[]⟩) rfl
  have p2 := hb2.cell 2 (v := .string ⟨#[]⟩) rfl
  have g0 := hb2.frozen 0
  have g1 := hb2.frozen 1
  have g2 := hb2.frozen 2
  have hz : w.heap.size < wr.heap.size := by have h1 := hb.size; have h2 := HXZ.out; omega
  have hzn : ¬ w.heap.size = wr.heap.size := by omega
  have HWR := ϕ (HXW.out.trans (hb.mono HXW.out.size))
  clear hrow hb hb2
  by_cases hj29 : j < 29
  · obtain ⟨r, hr, hex⟩ := rowsV_at j hj29
    have hidx := run_index_agg (P := prog) wr 218 171 29 3 rowsV j _ underlying218 (by kernel_rfl) underlying171 rfl hj29
    rw [hex] at hidx
    have hways := rowOf_drop k j r hr HROW.out
    have hij : (j : Int) < 29 := by omega
    have hij0 : (0 : Int) ≤ j := by omega
    clear hex hr
    obtain ⟨kd, nm, lt⟩ := r
    simp only at hidx hways
    by_cases hk : (kd : Int) = k
    · have HF := ϕ (hways.1 hk)
      have hd : ((kd : Int) == k) = true := by simpa using hk
      have HK := ϕ hk
      clear hk hways
      go_wp2_with fail
      refine bodyPost_ret (v := .tuple #[.agg #[.int .i64 (kd : Int), .string (mkS nm), .string (mkS lt)], .bool true]) (by simp [results, results101, go_sem, p0, p1, p2, hz, hzn]) rfl ?_
      refine ⟨?_, ?_⟩
      · unfold rowZ isK; rw [HF.out]; rfl
      refine Below.trans HWR.out ?_
      repeat (first | exact Below.refl _ _ | apply Below.drew | (refine Below.setCell ?_ ?_ _; rotate_left; focus (first | (simp; done) | (simp; omega) | omega)) | (refine Below.alloc ?_ ?_ _; rotate_left; focus (first | (simp; done) | (simp; omega) | omega)))
    · have HF := ϕ (hways.2 hk)
      have hd : ((kd : Int) == k) = false := by simpa using hk
      clear hk hways
      go_wp2_with fail
      go_roundw
      case rel =>
       have h9 : Below X.heap.size X _ := HB.out.alloc HB.out.size (.cells #[.int .i64 (kd : Int), .string (mkS nm), .string (mkS lt)] 171)
       first
        | exact ⟨j + 1, by omega, by go_num, HF.out, h9⟩
        | ((repeat apply Exists.intro); refine ⟨?_, rfl⟩; exact ⟨j + 1, by omega, by go_num, HF.out, h9⟩)
      case measure => simp [intOf]; omega
  · obtain rfl : j = 29 := by omega
    have HF := ϕ (show rowOf k = none from HROW.out)
    go_wp2_with fail
    refine bodyPost_ret (v := .tuple #[.agg #[.int .i64 0, .string ⟨#[]⟩, .string ⟨#[]⟩], .bool false]) (by simp [results, results101, go_sem, p0, p1, p2, hz, hzn]) rfl ?_
    refine ⟨?_, ?_⟩
    · unfold rowZ isK; rw [HF.out]; rfl
    refine Below.trans HWR.out ?_
    repeat (first | exact Below.refl _ _ | apply Below.drew | (refine Below.setCell ?_ ?_ _; rotate_left; focus (first | (simp; done) | (simp; omega) | omega)) | (refine Below.alloc ?_ ?_ _; rotate_left; focus (first | (simp; done) | (simp; omega) | omega)))
theorem rowZ_eq (k : Int) : ∃ kd : Int, rowZ k = #[.int .i64 kd, .string (mkS (nam k)), .string (mkS (ltr k))] := by
 unfold rowZ nam ltr
 cases h : rowOf k with
 | none => exact ⟨0, rfl⟩
 | some r => exact ⟨r.1, rfl⟩
theorem Fields_any (w : World) (k : Int) (hT : TabR w) :
 Calls prog 60 #[.int .i64 k] w fun e w' => e = .returned (.tuple #[.string (mkS (ltr k)), .bool (isK k)]) ∧ Below w.heap.size w w' := by
 obtain ⟨kd, hz⟩ := rowZ_eq k
 have HF := ϕ (find_any w k hT)
 rw [hz] at HF
 clear hz hT
 generalize mkS (ltr k) = lt at *
 generalize mkS (nam k) = nm at *
 generalize isK k = is at *
 go_enter func60, ntmps60
 go_wp2_with (go_at_call 101; refine HF.out.mono ?_; rintro e w1 ⟨rfl, hb1⟩; have HB1 := ϕ hb1; clear hb1)
 go_ret2
 exact ⟨rfl, HB1.out.alloc HB1.out.size _⟩
def SL (w : World) (v : Value) (xs : List Value) : Prop := ∃ (A : Option Addr) (n c : Nat), v = .slice A n c ∧ xs.length = n ∧ Rd w A xs ∧ n ≤ c ∧ c ≤ maxLen
theorem SL.below {w w' : World} {v : Value} {xs : List Value} (h : SL w v xs) (hb : Below w.heap.size w w') : SL w' v xs := by
 obtain ⟨A, n, c, h1, h2, h3, h4⟩ := h
 exact ⟨A, n, c, h1, h2, h3.below hb, h4⟩
theorem SL.nil (w : World) : SL w (.slice none 0 0) [] := ⟨none, 0, 0, rfl, rfl, Rd.nil _ _, Nat.le_refl _, Nat.zero_le _⟩
theorem Rd.tail {w : World} {b o : Nat} {x : Value} {xs : List Value} (h : Rd w (some ⟨b, o, none⟩) (x :: xs)) {A' : Option Addr} {n : Nat} (hn : xs.length = n) (hA : n ≠ 0 → A' = some ⟨b, o + 1, none⟩) : Rd w A' xs := fun j y hy => by
 have hj : j < xs.length := (List.getElem?_eq_some_iff.1 hy).1
 rw [hA (by omega)]
 obtain ⟨b', o', e, hl, hc⟩ := h (j + 1) y (by simpa using hy)
 injection e with e; injection e with e1 e2 e3
 subst e1 e2
 exact ⟨b, o + 1, rfl, hl, by rw [show o + 1 + j = o + (j + 1) by omega]; exact hc⟩
theorem SL.first {w : World} {v : Value} {x : Value} {xs : List Value} (h : SL w v (x :: xs)) : ∃ b o c, v = .slice (some ⟨b, o, none⟩) (xs.length + 1) c ∧ w.cell? ⟨b, o, none⟩ = some x ∧ b < w.heap.size ∧ xs.length + 1 ≤ c ∧ c ≤ maxLen ∧
 ∀ A', (xs.length ≠ 0 → A' = some ⟨b, o + 1, none⟩) → SL w (.slice A' xs.length (c - 1)) xs := by
 obtain ⟨A, n, c, rfl, rfl, h3, h4, h5⟩ := h
 obtain ⟨b, o, rfl, hl, hc⟩ := h3 0 x rfl
 simp only [List.length_cons] at *
 exact ⟨b, o, c, rfl, hc, hl, h4, h5, fun A' hA => ⟨A', _, _, rfl, rfl, Rd.tail h3 rfl hA, by omega, by omega⟩⟩
def SLN (w : World) (v : Value) (ns : List (List ByteArray)) : Prop := ∃ vs, SL w v vs ∧ vs.length = ns.length ∧ ∀ (j : Nat) (l : List ByteArray), ns[j]? = some l → ∃ u, vs[j]? = some u ∧ SL w u (l.map Value.string)
theorem SLN.below {w w' : World} {v : Value} {ns : List (List ByteArray)} (h : SLN w v ns) (hb : Below w.heap.size w w') : SLN w' v ns := by
 obtain ⟨vs, h1, h2, h3⟩ := h
 exact ⟨vs, h1.below hb, h2, fun j l hl => by obtain ⟨u, a, b⟩ := h3 j l hl; exact ⟨u, a, SL.below b hb⟩⟩
theorem SLN.nil (w : World) : SLN w (.slice none 0 0) [] := ⟨[], SL.nil w, rfl, fun j l h => by simp at h⟩
theorem SLN.first {w : World} {v : Value} {x : List ByteArray} {xs : List (List ByteArray)} (h : SLN w v (x :: xs)) : ∃ b o c u, v = .slice (some ⟨b, o, none⟩) (xs.length + 1) c ∧ w.cell? ⟨b, o, none⟩ = some u ∧ SL w u (x.map Value.string) ∧ b < w.heap.size ∧ xs.length + 1 ≤ c ∧ c ≤ maxLen ∧
 ∀ A', (xs.length ≠ 0 → A' = some ⟨b, o + 1, none⟩) → SLN w (.slice A' xs.length (c - 1)) xs := by
 obtain ⟨vs, h1, h2, h3⟩ := h
 cases vs with
 | nil => simp at h2
 | cons u vs =>
  obtain ⟨u', e, hu⟩ := h3 0 x rfl
  simp only [List.getElem?_cons_zero, Option.some.injEq] at e
  subst e
  simp only [List.length_cons, Nat.add_right_cancel_iff] at h2
  obtain ⟨b, o, c, hv, hc, hl, h4, h5, h6⟩ := h1.first
  rw [h2] at hv h4 h6
  exact ⟨b, o, c, u, hv, hc, hu, hl, h4, h5, fun A' hA => ⟨vs, h6 A' hA, h2, fun j l hl => by simpa using h3 (j + 1) l (by simpa using hl)⟩⟩
structure IsMsg (w : World) (m : Msg) (vu vs vn vb : Value) : Prop where
 u : SL w vu (m.u.map fun (x : Nat) => .int .u32 (x : Int))
 s : SL w vs (m.s.map Value.string)
 n : SLN w vn m.n
 b : SL w vb (m.b.map Value.bool)
theorem IsMsg.below {w w' : World} {m : Msg} {vu vs vn vb : Value} (h : IsMsg w m vu vs vn vb) (hb : Below w.heap.size w w') : IsMsg w' m vu vs vn vb := ⟨h.u.below hb, h.s.below hb, h.n.below hb, h.b.below hb⟩
structure Fit (m : Msg) : Prop where
 u : ∀ x ∈ m.u, x < 4294967296
 s : ∀ x ∈ m.s, x.size ≤ 1000000
 n : ∀ l ∈ m.n, l.length ≤ 100000 ∧ (joinC l).length ≤ 1000000 ∧ ∀ x ∈ l, x.size ≤ 1000000
open Go.ChangeShapes Go.WideShapes Go.Proofs.YtciibogkfbicfaaGreatDoor.Og
variable {H : Type} {enc : TypeId × Value → H} {W : World}
end Mg
namespace Mg
open Go.RowKit Go.Proofs.YtciibogkfbicfaaGreatDoor.Wi Go.Proofs.YtciibogkfbicfaaGreatDoor.Ow Go.Proofs.YtciibogkfbicfaaGreatDoor.Be
def cntL (l cs : List UInt8) : Nat := (cs.map fun c => l.count c).sum
theorem cntL_take (l cs : List UInt8) (k : Nat) (c : UInt8) (h : cs[k]? = some c) : cntL l (cs.take (k + 1)) = cntL l (cs.take k) + l.count c := by
 unfold cntL; rw [List.take_add_one, h]; simp
theorem cntL_le (l cs : List UInt8) : cntL l cs ≤ cs.length * l.length := by
 unfold cntL
 induction cs with
 | nil => simp
 | cons c cs ih => simp only [List.map_cons, List.sum_cons, List.length_cons, Nat.succ_mul]; have := List.count_le_length (a := c) (l := l); omega
def oneS (c : UInt8) : ByteArray := ⟨#[c]⟩
def oneV (c : UInt8) : Value := .string (oneS c)
theorem count_fun (w : World) (lb : Nat) (A : Option Addr) (n c : Nat) (l cs : List UInt8) (hn : cs.length = n) (hN : n ≤ 10) (hl : l.length ≤ 100) (hB : Rg.Blk w lb 9 #[.string (mkS l)]) (hR : Rd w A (cs.map oneV)) :
 Calls prog 102 #[.slice A n c, .pointer (some ⟨lb, 0, none⟩)] w fun e w' => e = .returned (.int .i64 (cntL l cs : Nat)) ∧ w = w' := by
 have HN := ϕ hn
 have HR := ϕ hR
 have HL := ϕ hl
 have HC := ϕ (fun k => cntL_take l cs k)
 have c0 := hB.cell 0 (v := .string (mkS l)) rfl
 have HLL := ϕ (mkS_list l)
 generalize mkS l = ls at *
 clear hn hR hB hl
 go_enter func102, ntmps102
 go_wp2_with fail
 go_loop [4, 9] (fun s i => ∃ k : Nat, k ≤ n ∧ i = .int .i64 k ∧ s = .int .i64 (cntL l (cs.take k) : Nat)) (fun _ i => n - (intOf i).toNat)
 case atStart => exact ⟨0, Nat.zero_le _, rfl, rfl⟩
 case round =>
  obtain ⟨k, hk, rfl, rfl⟩ := hrel
  by_cases hkn : k < n
  · have hd : decide (k < n) = true := by simp; exact hkn
    have hik : (k : Int) < n := by omega
    have hx : cs[k]? = some (cs[k]'(by rw [HN.out]; exact hkn)) := List.getElem?_eq_getElem _
    obtain ⟨b, o, rfl, _, hcell⟩ := HR.out.at_ (j := k) (by rw [List.length_map, HN.out]; exact hkn)
    rw [List.getElem_map] at hcell
    generalize cs[k]'(by rw [HN.out]; exact hkn) = x at *
    unfold oneV oneS at hcell
    have HX := ϕ (HC.out k x hx)
    have h1 : cntL l (cs.take k) ≤ k * 100 := by
     have h1 := cntL_le l (cs.take k)
     rw [List.length_take] at h1
     have h2 : min k cs.length * l.length ≤ k * 100 := Nat.mul_le_mul (Nat.min_le_left _ _) HL.out
     omega
    have h2 : l.count x ≤ 100 := Nat.le_trans List.count_le_length HL.out
    have HCN := ϕ (show Calls prog 103 #[.string ls, .string ⟨#[x]⟩] w fun e w' => e = .returned (.int .i64 (l.count x : Nat)) ∧ w' = w by
     have := Tryz.strings_Count_one ls x w
     unfold Lib.countByte at this
     rw [HLL.out] at this; exact this)
    generalize l.count x = q at *
    generalize cntL l (cs.take k) = p at *
    clear hx
    go_wp2_with (go_at_call 103; refine HCN.out.mono ?_; rintro e w3 ⟨rfl, rfl⟩; skip)
    go_round
    case rel => exact ⟨k + 1, by omega, by go_num, by rw [HX.out]; go_num⟩
    case measure => simp [intOf]; omega
  · obtain rfl : k = n := by omega
    have hd : decide (k < k) = false := by simp
    have HA := ϕ (show cs.take k = cs from List.take_of_length_le (Nat.le_of_eq HN.out))
    go_wp2_with fail
    go_ret
    exact ⟨by rw [HA.out]; rfl, rfl⟩
theorem rd_ones (W : World) (b : Nat) (cs : List UInt8) (h : Rg.Blk W b 9 (cs.map oneV).toArray) : Rd W (some ⟨b, 0, none⟩) (cs.map oneV) := fun j x hx => ⟨b, 0, rfl, h.lt, by rw [Nat.zero_add]; exact h.cell j (by simpa using hx)⟩
theorem Blk.cellAft {X W : World} {b T : Nat} {cs : Array Value} (h : Rg.Blk X b T cs) (hA : RL.Aft X W) (j : Nat) {v : Value} (hv : cs[j]? = some v) : W.cell? ⟨b, j, none⟩ = some v := (Rg.Blk.below h hA h.lt).cell j hv
theorem counted_f4 (w : World) (kind : Int) (au aS an ab : Option Addr) (nu ns nn nb cu cs cn cb : Nat) (l : List UInt8) (hl : l.length ≤ 100)
 (h0 : nu = cntL l [117])
 (h1 : ns = cntL l [115, 99, 114])
 (h2 : nn = cntL l [110])
 (h3 : nb = cntL l [98])
 : Calls prog 61 #[.agg (mC kind (.slice au nu cu) (.slice aS ns cs) (.slice an nn cn) (.slice ab nb cb)), .string (mkS l)] w fun e w' => e = .returned (.bool true) ∧ Below w.heap.size w w' := by
 have hmf : ∀ (fn : Fn) (first cap : Array Value) (w : World), (Instr.makeFunc fn first cap).run prog w = .ok (.func fn first cap) w := fun _ _ _ _ => rfl
 have HL := ϕ hl
 subst h0
 subst h1
 subst h2
 subst h3
 obtain ⟨ls, hls⟩ : ∃ ls, mkS l = ls := exr
 rw [hls]
 have HLS := ϕ hls
 clear hl hls
 unfold mC
 go_enter func61, ntmps61
 go_wp2_with fail
 have hM : Rg.Blk ((w.alloc (.cells #[.int .i64 kind, .slice au (cntL l [117]) cu, .slice aS (cntL l [115, 99, 114]) cs, .slice an (cntL l [110]) cn, .slice ab (cntL l [98]) cb] 39)).alloc (.cells #[.string ls] 9)) w.heap.size 39 #[.int .i64 kind, .slice au (cntL l [117]) cu, .slice aS (cntL l [115, 99, 114]) cs, .slice an (cntL l [110]) cn, .slice ab (cntL l [98]) cb] := (Rg.Blk.new w _ _).alloc _
 have hL : Rg.Blk ((w.alloc (.cells #[.int .i64 kind, .slice au (cntL l [117]) cu, .slice aS (cntL l [115, 99, 114]) cs, .slice an (cntL l [110]) cn, .slice ab (cntL l [98]) cb] 39)).alloc (.cells #[.string ls] 9)) (w.heap.size + 1) 9 #[.string ls] := Rg.Blk.newAt (by simp) _ _
 have hXW : Below w.heap.size w ((w.alloc (.cells #[.int .i64 kind, .slice au (cntL l [117]) cu, .slice aS (cntL l [115, 99, 114]) cs, .slice an (cntL l [110]) cn, .slice ab (cntL l [98]) cb] 39)).alloc (.cells #[.string ls] 9)) := ((Below.refl _ _).alloc (Nat.le_refl _) _).alloc (by simp) _
 generalize ((w.alloc (.cells #[.int .i64 kind, .slice au (cntL l [117]) cu, .slice aS (cntL l [115, 99, 114]) cs, .slice an (cntL l [110]) cn, .slice ab (cntL l [98]) cb] 39)).alloc (.cells #[.string ls] 9)) = X at *
 have HM := ϕ hM
 have HXW := ϕ hXW
 have HCF := ϕ (show ∀ (W : World) (b : Nat) (cs : List UInt8), cs.length ≤ 10 → RL.Aft X W → Rg.Blk W b 9 (cs.map oneV).toArray → Calls prog 102 #[.slice (some ⟨b, 0, none⟩) cs.length cs.length, .pointer (some ⟨w.heap.size + 1, 0, none⟩)] W fun e w' => e = .returned (.int .i64 (cntL l cs : Nat)) ∧ W = w' from fun W b cs hcs hA hB => count_fun W _ _ _ _ l cs rfl hcs HL.out (by rw [HLS.out]; exact hL.below hA hL.lt) (rd_ones W b cs hB))
 clear hM hL hXW
 refine RL.start (RL.Aft X) (by kernel_rfl) (RL.Aft.drew (RL.Aft.refl X)) ?_
 refine' RL.tv 0 ?hc0x0 ?rc0x0
 case hc0x0 => (intro W hSW; go_simp; try with_reducible rfl)
 try go_frame
 refine' RL.tv 1 ?hc0x1 ?rc0x1
 case hc0x1 => (intro W hSW; have g := Blk.cellAft HM.out hSW 1 (v := .slice au (cntL l [117]) cu) rfl; go_simp; try with_reducible rfl)
 try go_frame
 refine' RL.tv 2 ?hc0x2 ?rc0x2
 case hc0x2 => (intro W hSW; go_simp; try with_reducible rfl)
 try go_frame
 refine' RL.tv 3 ?hc0x3 ?rc0x3
 case hc0x3 => (intro W hSW; go_simp; try with_reducible rfl)
 try go_frame
 refine RL.sk 4 (fun wa0 hla0 hsa0 K hK => ?_)
 go_simp
 refine hK.out _ _ (RL.Aft.alloc hsa0 _) ?_
 clear hK
 try go_frame
 refine RL.sk 5 (fun wb0 hlb0 hsb0 K hK => ?_)
 have hcf := HCF.out wb0 wa0.heap.size [117] (by decide) hsb0 (Rg.Blk.below (Rg.Blk.new wa0 _ _) hlb0 (by simp))
 simp only [List.length_cons, List.length_nil, Nat.reduceAdd] at hcf
 go_simp
 refine hcf.mono ?_
 rintro e w3 ⟨rfl, rfl⟩
 refine hK.out _ _ hsb0 ?_
 clear hK
 try go_frame
 refine' RL.tv 6 ?hc0x6 ?rc0x6
 case hc0x6 => (intro W hSW; go_simp; try with_reducible rfl)
 try go_frame
 refine' RL.tv 7 ?hp7 ?rp7
 case hp7 => (intro W hSW; go_simp; try with_reducible rfl)
 try go_frame
 refine' RL.tv 8 ?hc1x8 ?rc1x8
 case hc1x8 => (intro W hSW; go_simp; try with_reducible rfl)
 try go_frame
 refine' RL.tv 9 ?hc1x9 ?rc1x9
 case hc1x9 => (intro W hSW; have g := Blk.cellAft HM.out hSW 2 (v := .slice aS (cntL l [115, 99, 114]) cs) rfl; go_simp; try with_reducible rfl)
 try go_frame
 refine' RL.tv 10 ?hc1x10 ?rc1x10
 case hc1x10 => (intro W hSW; go_simp; try with_reducible rfl)
 try go_frame
 refine' RL.tv 11 ?hc1x11 ?rc1x11
 case hc1x11 => (intro W hSW; go_simp; try with_reducible rfl)
 try go_frame
 refine RL.sk 12 (fun wa1 hla1 hsa1 K hK => ?_)
 go_simp
 refine hK.out _ _ (RL.Aft.alloc hsa1 _) ?_
 clear hK
 try go_frame
 refine RL.sk 13 (fun wb1 hlb1 hsb1 K hK => ?_)
 have hcf := HCF.out wb1 wa1.heap.size [115, 99, 114] (by decide) hsb1 (Rg.Blk.below (Rg.Blk.new wa1 _ _) hlb1 (by simp))
 simp only [List.length_cons, List.length_nil, Nat.reduceAdd] at hcf
 go_simp
 refine hcf.mono ?_
 rintro e w3 ⟨rfl, rfl⟩
 refine hK.out _ _ hsb1 ?_
 clear hK
 try go_frame
 refine' RL.tv 14 ?hc1x14 ?rc1x14
 case hc1x14 => (intro W hSW; go_simp; try with_reducible rfl)
 try go_frame
 refine' RL.tv 15 ?hp15 ?rp15
 case hp15 => (intro W hSW; go_simp; try with_reducible rfl)
 try go_frame
 refine' RL.tv 16 ?hp16 ?rp16
 case hp16 => (intro W hSW; go_simp; try with_reducible rfl)
 try go_frame
 refine' RL.tv 17 ?hc2x17 ?rc2x17
 case hc2x17 => (intro W hSW; go_simp; try with_reducible rfl)
 try go_frame
 refine' RL.tv 18 ?hc2x18 ?rc2x18
 case hc2x18 => (intro W hSW; have g := Blk.cellAft HM.out hSW 3 (v := .slice an (cntL l [110]) cn) rfl; go_simp; try with_reducible rfl)
 try go_frame
 refine' RL.tv 19 ?hc2x19 ?rc2x19
 case hc2x19 => (intro W hSW; go_simp; try with_reducible rfl)
 try go_frame
 refine' RL.tv 20 ?hc2x20 ?rc2x20
 case hc2x20 => (intro W hSW; go_simp; try with_reducible rfl)
 try go_frame
 refine RL.sk 21 (fun wa2 hla2 hsa2 K hK => ?_)
 go_simp
 refine hK.out _ _ (RL.Aft.alloc hsa2 _) ?_
 clear hK
 try go_frame
 refine RL.sk 22 (fun wb2 hlb2 hsb2 K hK => ?_)
 have hcf := HCF.out wb2 wa2.heap.size [110] (by decide) hsb2 (Rg.Blk.below (Rg.Blk.new wa2 _ _) hlb2 (by simp))
 simp only [List.length_cons, List.length_nil, Nat.reduceAdd] at hcf
 go_simp
 refine hcf.mono ?_
 rintro e w3 ⟨rfl, rfl⟩
 refine hK.out _ _ hsb2 ?_
 clear hK
 try go_frame
 refine' RL.tv 23 ?hc2x23 ?rc2x23
 case hc2x23 => (intro W hSW; go_simp; try with_reducible rfl)
 try go_frame
 refine' RL.tv 24 ?hp24 ?rp24
 case hp24 => (intro W hSW; go_simp; try with_reducible rfl)
 try go_frame
 refine' RL.tv 25 ?hp25 ?rp25
 case hp25 => (intro W hSW; go_simp; try with_reducible rfl)
 try go_frame
 refine' RL.tv 26 ?hc3x26 ?rc3x26
 case hc3x26 => (intro W hSW; go_simp; try with_reducible rfl)
 try go_frame
 refine' RL.tv 27 ?hc3x27 ?rc3x27
 case hc3x27 => (intro W hSW; have g := Blk.cellAft HM.out hSW 4 (v := .slice ab (cntL l [98]) cb) rfl; go_simp; try with_reducible rfl)
 try go_frame
 refine' RL.tv 28 ?hc3x28 ?rc3x28
 case hc3x28 => (intro W hSW; go_simp; try with_reducible rfl)
 try go_frame
 refine' RL.tv 29 ?hc3x29 ?rc3x29
 case hc3x29 => (intro W hSW; go_simp; try with_reducible rfl)
 try go_frame
 refine RL.sk 30 (fun wa3 hla3 hsa3 K hK => ?_)
 go_simp
 refine hK.out _ _ (RL.Aft.alloc hsa3 _) ?_
 clear hK
 try go_frame
 refine RL.sk 31 (fun wb3 hlb3 hsb3 K hK => ?_)
 have hcf := HCF.out wb3 wa3.heap.size [98] (by decide) hsb3 (Rg.Blk.below (Rg.Blk.new wa3 _ _) hlb3 (by simp))
 simp only [List.length_cons, List.length_nil, Nat.reduceAdd] at hcf
 go_simp
 refine hcf.mono ?_
 rintro e w3 ⟨rfl, rfl⟩
 refine hK.out _ _ hsb3 ?_
 clear hK
 try go_frame
 refine' RL.tv 32 ?hc3x32 ?rc3x32
 case hc3x32 => (intro W hSW; go_simp; try with_reducible rfl)
 try go_frame
 refine' RL.tv 33 ?hp33 ?rp33
 case hp33 => (intro W hSW; go_simp; try with_reducible rfl)
 try go_frame
 refine' RL.tv 34 ?hp34 ?rp34
 case hp34 => (intro W hSW; go_simp; try with_reducible rfl)
 try go_frame
 refine RL.done (by kernel_rfl) (fun wd hlwd hswd => ?_)
 go_wp2_with fail
 go_ret
 exact ⟨rfl, HXW.out.trans (hswd.mono HXW.out.size)⟩
theorem ltr_len (k : Int) : (ltr k).length ≤ 100 := by
 have h : rowsL.all (fun r => decide (r.2.2.length ≤ 100)) = true := by decide +kernel
 unfold ltr
 cases hr : rowOf k with
 | none => exact Nat.zero_le _
 | some r => simpa using List.all_eq_true.1 h r (rowOf_mem hr).1
structure ChkAt (w : World) (fb : Nat) (kind : Int) (vu vb : Value) (l : List UInt8) (R : Bool × Bool) (k : Nat) (wrong big : Bool) (ss : List ByteArray) (nn : List (List ByteArray)) (vs vn : Value) (wr : World) : Prop where
 ls : ss.length = cntS (l.drop k)
 ln : nn.length = (l.drop k).count 110
 s : SL w vs (ss.map Value.string)
 n : SLN w vn nn
 fit : ∀ x ∈ nn, x.length ≤ 100000 ∧ (joinC x).length ≤ 1000000 ∧ ∀ y ∈ x, y.size ≤ 1000000
 c : chk (l.drop k) ss nn wrong big = R
 f : Rg.Blk wr fb 129 (mC kind vu vs vn vb)
 b : Below w.heap.size w wr
def ChkRel (w : World) (fb : Nat) (kind : Int) (vu vb : Value) (l : List UInt8) (R : Bool × Bool) (k : Nat) (wrong big : Bool) (wr : World) : Prop := ∃ ss nn vs vn, ChkAt w fb kind vu vb l R k wrong big ss nn vs vn wr
theorem drop_cons (l : List UInt8) (k : Nat) (c : UInt8) (h : l[k]? = some c) : l.drop k = c :: l.drop (k + 1) := by
 obtain ⟨hl, rfl⟩ := List.getElem?_eq_some_iff.1 h
 exact List.drop_eq_getElem_cons hl
theorem ChkAt.skip {w wr : World} {fb : Nat} {kind : Int} {vu vb vs vn : Value} {l : List UInt8} {R : Bool × Bool} {k : Nat} {wrong big : Bool} {ss : List ByteArray} {nn : List (List ByteArray)} (h : ChkAt w fb kind vu vb l R k wrong big ss nn vs vn wr) {c : UInt8} (hc : l[k]? = some c) (h1 : c ≠ 99) (h2 : c ≠ 115) (h3 : c ≠ 114) (h4 : c ≠ 110) :
 ChkRel w fb kind vu vb l R (k + 1) wrong big wr := by
 have hd := drop_cons l k c hc
 have h9 := h.c
 refine ⟨ss, nn, vs, vn, ?_, ?_, h.s, h.n, h.fit, ?_, h.f, h.b⟩
 · have := h.ls; rw [hd] at this; unfold cntS at *; simpa [List.count_cons, h1, h2, h3] using this
 · have := h.ln; rw [hd] at this; simpa [List.count_cons, h4] using this
 · rw [hd] at h9; simpa [chk, h1, h2, h3, h4] using h9
theorem ChkAt.text {w wr : World} {fb : Nat} {kind : Int} {vu vb vs vn : Value} {l : List UInt8} {R : Bool × Bool} {k : Nat} {wrong big : Bool} {ss : List ByteArray} {nn : List (List ByteArray)} (h : ChkAt w fb kind vu vb l R k wrong big ss nn vs vn wr) {c : UInt8} (hc : l[k]? = some c) (h1 : c = 99 ∨ c = 115 ∨ c = 114) (hw : w.heap.size ≤ fb) :
 ∃ x b o n cp, vs = .slice (some ⟨b, o, none⟩) (n + 1) cp ∧ n + 1 ≤ cp ∧ cp ≤ maxLen ∧ wr.cell? ⟨b, o, none⟩ = some (.string x) ∧ ∀ A' wr', (n ≠ 0 → A' = some ⟨b, o + 1, none⟩) → Rg.Blk wr' fb 129 (mC kind vu (.slice A' n (cp - 1)) vn vb) → wr.grownBy wr' (some fb) →
  ChkRel w fb kind vu vb l R (k + 1) (if c = 99 then decide (x.size ≠ 16) || wrong else wrong) (if c = 99 then big else decide (32768 < x.size) || big) wr' := by
 have hd := drop_cons l k c hc
 have h9 := h.c
 have hl := h.ls
 have hn := h.ln
 rw [hd] at hl hn h9
 cases ss with
 | nil => rcases h1 with rfl | rfl | rfl <;> simp [cntS] at hl <;> omega
 | cons x ss =>
  obtain ⟨b, o, cp, e, hcell, hlt, h4, h5, h6⟩ := SL.first (xs := ss.map Value.string) h.s
  rw [List.length_map] at *
  refine ⟨x, b, o, ss.length, cp, e, h4, h5, (h.b.cell (p := ⟨b, o, none⟩) hlt).trans hcell, fun A' wr' hA hB hg => ⟨ss, nn, _, vn, ?_, ?_, h6 A' hA, h.n, h.fit, ?_, hB, h.b.grown hg h.b.size (fun k hk => by cases hk; exact hw)⟩⟩
  · rcases h1 with rfl | rfl | rfl <;> simp [cntS] at hl ⊢ <;> omega
  · rcases h1 with rfl | rfl | rfl <;> simpa [List.count_cons] using hn
  · rcases h1 with rfl | rfl | rfl <;> simpa [chk, Mg.hd] using h9
theorem ChkAt.names {w wr : World} {fb : Nat} {kind : Int} {vu vb vs vn : Value} {l : List UInt8} {R : Bool × Bool} {k : Nat} {wrong big : Bool} {ss : List ByteArray} {nn : List (List ByteArray)} (h : ChkAt w fb kind vu vb l R k wrong big ss nn vs vn wr) (hc : l[k]? = some 110) (hw : w.heap.size ≤ fb) :
 ∃ (x : List ByteArray) (b o n cp : Nat) (xa : Option Addr) (xn xc : Nat), vn = .slice (some ⟨b, o, none⟩) (n + 1) cp ∧ n + 1 ≤ cp ∧ cp ≤ maxLen ∧ wr.cell? ⟨b, o, none⟩ = some (.slice xa xn xc) ∧ x.length = xn ∧ xn ≤ xc ∧ Rd w xa (x.map Value.string) ∧ (x.length ≤ 100000 ∧ (joinC x).length ≤ 1000000 ∧ ∀ y ∈ x, y.size ≤ 1000000) ∧
  ∀ A' wr' wr'', (n ≠ 0 → A' = some ⟨b, o + 1, none⟩) → Rg.Blk wr' fb 129 (mC kind vu vs (.slice A' n (cp - 1)) vb) → wr.grownBy wr' (some fb) → Below wr'.heap.size wr' wr'' →
  ChkRel w fb kind vu vb l R (k + 1) (wrong || !x.all okN) (big || (x.all okN && decide (4096 < (joinC x).length))) wr'' := by
 have hd := drop_cons l k _ hc
 have h9 := h.c
 have hl := h.ls
 have hn := h.ln
 rw [hd] at hl hn h9
 cases nn with
 | nil => simp at hn
 | cons x nn =>
  obtain ⟨b, o, cp, u, e, hcell, hu, hlt, h4, h5, h6⟩ := SLN.first h.n
  obtain ⟨xa, xn, xc, rfl, e2, hR, hxc, _⟩ := hu
  rw [List.length_map] at e2
  refine ⟨x, b, o, nn.length, cp, xa, xn, xc, e, h4, h5, (h.b.cell (p := ⟨b, o, none⟩) hlt).trans hcell, e2, hxc, hR, h.fit x (List.mem_cons_self ..), fun A' wr' wr'' hA hB hg hb => ⟨ss, nn, vs, _, ?_, ?_, h.s, h6 A' hA, fun y hy => h.fit y (List.mem_cons_of_mem _ hy), ?_, hB.below hb hB.lt, (h.b.grown hg h.b.size (fun k hk => by cases hk; exact hw)).trans (hb.mono (Nat.le_trans h.b.size hg.size))⟩⟩
  · simpa [cntS] using hl
  · simpa [List.count_cons] using hn
  · simpa [chk] using h9
theorem Below.grow2 {w0 w w' : World} {fb : Nat} (h : Below w0.heap.size w0 w) (hg : w.grownBy w' (some fb)) (hf : w0.heap.size ≤ fb) : Below w0.heap.size w0 w' := h.grown hg h.size (fun k hk => by cases hk; exact hf)
theorem Check_core (w : World) (a : Nat → Addr) (hE : ErrsM w a) (hT : TabR w) (m : Msg) (vu vs vn vb : Value) (hm : IsMsg w m vu vs vn vb) (hf : Fit m)
 (hcn : ∀ (W : World) (au aS an ab : Option Addr) (cu cs cn cb : Nat) (l : List UInt8), l = ltr m.kind → l.length ≤ 100 → Calls prog 61 #[.agg (mC m.kind (.slice au m.u.length cu) (.slice aS m.s.length cs) (.slice an m.n.length cn) (.slice ab m.b.length cb)), .string (mkS l)] W fun e w' => e = .returned (.bool (decide (m.u.length = l.count 117) && decide (m.s.length = cntS l) && decide (m.n.length = l.count 110) && decide (m.b.length = l.count 98))) ∧ Below W.heap.size W w') :
 Calls prog 30 #[.agg (mC m.kind vu vs vn vb)] w fun e w' => e = .returned (Ei.evA a (checkC m)) ∧ Below w.heap.size w w' := by
 obtain ⟨kind, us, ss, ns, bs⟩ := m
 have HE := ϕ hE
 have HT := ϕ hT
 have HM := ϕ hm
 have HF := ϕ hf
 obtain ⟨l, hl⟩ : ∃ l, ltr kind = l := exr
 obtain ⟨is, his⟩ : ∃ is, isK kind = is := exr
 obtain ⟨ls, hls⟩ : ∃ ls, mkS l = ls := exr
 have HL := ϕ hl
 have HIS := ϕ his
 have HLS := ϕ hls
 have HLL := ϕ (show l.length ≤ 100 by rw [← hl]; exact ltr_len kind)
 have HLZ := ϕ (show ls.size = l.length by rw [← hls]; exact mkS_size l)
 have HLG := ϕ (show ls.data.toList = l by rw [← hls]; exact mkS_list l)
 have HFI := ϕ (show ∀ W, Below w.heap.size w W → Calls prog 60 #[.int .i64 kind] W fun e w' => e = .returned (.tuple #[.string ls, .bool is]) ∧ Below W.heap.size W w' from fun W hW => by
  have := Fields_any W kind (HT.out.below hW)
  rw [hl, his, hls] at this; exact this)
 obtain ⟨au, nu, cu, rfl, hlu, _⟩ := hm.u
 obtain ⟨aS, nS, cs, rfl, hlS, _⟩ := hm.s
 obtain ⟨vns, ⟨an, nn, cn, rfl, hln0, _⟩, hln, _⟩ := hm.n
 obtain ⟨ab, nb, cb, rfl, hlb, _⟩ := hm.b
 simp only [List.length_map] at hlu hlS hlb
 have HLU := ϕ hlu
 have HLT := ϕ hlS
 have HLN := ϕ (show ns.length = nn from hln.symm.trans hln0)
 have HLB := ϕ hlb
 have HCN := ϕ (show ∀ W, Calls prog 61 #[.agg (mC kind (.slice au nu cu) (.slice aS nS cs) (.slice an nn cn) (.slice ab nb cb)), .string (mkS l)] W fun e w' => e = .returned (.bool (decide (nu = l.count 117) && decide (nS = cntS l) && decide (nn = l.count 110) && decide (nb = l.count 98))) ∧ Below W.heap.size W w' from fun W => by
  have := hcn W au aS an ab cu cs cn cb l hl.symm HLL.out
  simp only at this
  rw [hlu, hlS, HLN.out, hlb] at this
  exact this)
 clear hcn
 rw [hls] at HCN
 have HA0 := ϕ (show Below w.heap.size w (w.alloc (.cells #[.int .i64 kind, .slice au nu cu, .slice aS nS cs, .slice an nn cn, .slice ab nb cb] 39)) from (Below.refl _ _).alloc (Nat.le_refl _) _)
 have HB0 := ϕ (show Rg.Blk (w.alloc (.cells #[.int .i64 kind, .slice au nu cu, .slice aS nS cs, .slice an nn cn, .slice ab nb cb] 39)) w.heap.size 39 #[.int .i64 kind, .slice au nu cu, .slice aS nS cs, .slice an nn cn, .slice ab nb cb] from Rg.Blk.new w _ _)
 clear hE hT hm hf hl his hls hlu hlS hln0 hln hlb
 unfold mC at HCN ⊢
 cases is with
 | false =>
  have HC := ϕ (show checkC ⟨kind, us, ss, ns, bs⟩ = 20 by unfold checkC; rw [if_pos HIS.out])
  go_enter func30, ntmps30
  go_wp2_with (go_at_call 60; refine (HFI.out _ HA0.out).mono ?_; rintro e w1 ⟨rfl, hb1⟩; have hb2 := HA0.out.trans (hb1.mono HA0.out.size); have ec : w1.cell? ⟨0, 0, none⟩ = some (.iface 271 (.pointer (some (a 20)))) := (HE.out.below hb2).cell 19 (by decide); have HB2 := ϕ hb2; clear hb1 hb2)
  go_ret
  exact ⟨by rw [HC.out]; rfl, HB2.out⟩
 | true =>
  obtain ⟨ok, hok⟩ : ∃ ok, (decide (nu = l.count 117) && decide (nS = cntS l) && decide (nn = l.count 110) && decide (nb = l.count 98)) = ok := exr
  have HCT := ϕ (show counted (ltr kind) ⟨kind, us, ss, ns, bs⟩ = ok by unfold counted; rw [HL.out]; simp only; rw [HLU.out, HLT.out, HLN.out, HLB.out]; exact hok)
  rw [hok] at HCN
  have HOK := ϕ hok
  clear hok
  cases ok with
  | false =>
   have HC := ϕ (show checkC ⟨kind, us, ss, ns, bs⟩ = 1 by unfold checkC; rw [if_neg (by rw [HIS.out]; decide), if_pos HCT.out])
   go_enter func30, ntmps30
   go_wp2_with (first
    | (go_at_call 60; refine (HFI.out _ HA0.out).mono ?_; rintro e w1 ⟨rfl, hb1⟩; skip
       have HB2 := ϕ (HA0.out.trans (hb1.mono HA0.out.size)); have HM1 := ϕ (HB0.out.below hb1 HB0.out.lt); clear hb1)
    | (refine wpList_load_row rfl 39 _ rfl _ rfl _ _ _ _ HM1.out underlying39 rfl (by kernel_rfl) ?_; skip)
    | (go_at_call 61; refine (HCN.out _).mono ?_; rintro e w2 ⟨rfl, hb2⟩; skip
       have hb3 := HB2.out.trans (hb2.mono HB2.out.size)
       have ec : w2.cell? ⟨3, 0, none⟩ = some (.iface 271 (.pointer (some (a 1)))) := (HE.out.below hb3).cell 0 (by decide)
       have HB3 := ϕ hb3; clear hb2 hb3))
   go_ret
   exact ⟨by rw [HC.out]; rfl, HB3.out⟩
  | true =>
   have HW := ϕ (show decide (nu = l.count 117) = true ∧ decide (nS = cntS l) = true ∧ decide (nn = l.count 110) = true by have := HOK.out; simp only [Bool.and_eq_true] at this; exact ⟨this.1.1.1, this.1.1.2, this.1.2⟩)
   obtain ⟨R, hR⟩ : ∃ R, chk l ss ns false false = R := exr
   have HC := ϕ (show checkC ⟨kind, us, ss, ns, bs⟩ = if R.1 then 1 else if R.2 then 4 else 0 by unfold checkC; rw [if_neg (by rw [HIS.out]; decide), if_neg (by rw [HCT.out]; decide)]; simp only; rw [HL.out, hR])
   have HR := ϕ hR
   clear hR
   obtain ⟨q, hq⟩ : ∃ q, l.length = q := exr
   have hq1 : q ≤ 100 := by rw [← hq]; exact HLL.out
   have hlz : ls.size = q := HLZ.out.trans hq
   have HQ := ϕ hq
   have HLQ := ϕ hlz
   clear hq
   clear hlz
   have tok := trivial
   go_enter func30, ntmps30
   go_wp2_with (first
    | (go_at_call 60; refine (HFI.out _ HA0.out).mono ?_; rintro e w1 ⟨rfl, hb1⟩; skip
       have HB2 := ϕ (HA0.out.trans (hb1.mono HA0.out.size)); have HM1 := ϕ (HB0.out.below hb1 HB0.out.lt); clear hb1)
    | (have _t := tok; refine wpList_load_row rfl 39 _ rfl _ rfl _ _ _ _ HM1.out underlying39 rfl (by kernel_rfl) ?_; clear _t tok)
    | (go_at_call 61; refine (HCN.out _).mono ?_; rintro e w2 ⟨rfl, hb2⟩; skip
       have HB3 := ϕ (HB2.out.trans (hb2.mono HB2.out.size)); have HM2 := ϕ (HM1.out.below hb2 HM1.out.lt); have tok2 := trivial; clear hb2)
    | (have _t := tok2; refine wpList_load_row rfl 39 _ rfl _ rfl _ _ _ _ HM2.out underlying39 rfl (by kernel_rfl) ?_; clear _t tok2))
   have hX : Rg.Blk (w2.alloc (.cells #[.int .i64 kind, .slice au nu cu, .slice aS nS cs, .slice an nn cn, .slice ab nb cb] 129)) w2.heap.size 129 #[.int .i64 kind, .slice au nu cu, .slice aS nS cs, .slice an nn cn, .slice ab nb cb] := Rg.Blk.new w2 _ _
   have hXW : Below w.heap.size w (w2.alloc (.cells #[.int .i64 kind, .slice au nu cu, .slice aS nS cs, .slice an nn cn, .slice ab nb cb] 129)) := HB3.out.alloc HB3.out.size _
   generalize w2.alloc (.cells #[.int .i64 kind, .slice au nu cu, .slice aS nS cs, .slice an nn cn, .slice ab nb cb] 129) = X at *
   have HWF := ϕ HB3.out.size
   have HX := ϕ hX
   have HXW := ϕ hXW
   clear hX hXW
   go_loopw [5, 6, 30] (fun v5 v6 i wr => ∃ (k : Nat) (wrong big : Bool), k ≤ q ∧ i = .int .i64 k ∧ v5 = .bool wrong ∧ v6 = .bool big ∧ ChkRel w w2.heap.size kind (.slice au nu cu) (.slice ab nb cb) l R k wrong big wr) (fun _ _ i _ => 200 - (intOf i).toNat)
   case atStart =>
    refine ⟨0, false, false, Nat.zero_le _, rfl, rfl, rfl, ss, ns, _, _, ?_, ?_, HM.out.s, HM.out.n, HF.out.n, HR.out, HX.out, HXW.out⟩
    · rw [HLT.out]; simpa using HW.out.2.1
    · rw [HLN.out]; simpa using HW.out.2.2
   case round =>
    obtain ⟨k, wrong, big, hk, rfl, rfl, rfl, hrel⟩ := hrel
    obtain ⟨ss1, nn1, vs1, vn1, hat⟩ := hrel
    have HAT := ϕ hat
    clear hat
    by_cases hkq : k < q
    · have hlz2 := HLQ.out
      have hks : k < ls.size := by omega
      have hik : (k : Int) < ls.size := by omega
      have hd0 : decide (k < ls.size) = true := by simp; exact hks
      have hx : l[k]? = some ls[k] := by rw [← HLG.out]; exact get_list ls k hks
      clear hlz2
      generalize hxx : ls[k] = x at *
      have HX1 := ϕ hx
      clear hx
      have EQ := ϕ (show ∀ c : UInt8, x ≠ c → ((x.toNat : Int) == c.toNat) = false from fun c hc => by rw [beq_eq_false_iff_ne]; intro e; exact hc (UInt8.toNat_inj.1 (by omega)))
      by_cases h99 : x = 99
      · subst h99
        have e99 : (((99 : UInt8).toNat : Int) == 99) = true := rfl
        obtain ⟨y, b, o, n, cp, rfl, h4, h5, hcell, hnext⟩ := HAT.out.text HX1.out (by decide) HWF.out
        have HNX := ϕ hnext
        have HCALL := ϕ (s_any wr w2.heap.size kind b o n cp y _ _ _ HAT.out.f hcell h4 h5)
        clear hnext h4 h5 hcell
        by_cases ht : y.size = 16
        · 
          have ht2 : ((y.size : Int) != 16) = false := by simp; omega
          have HNW := ϕ (show (decide (y.size ≠ 16) || wrong) = wrong by simp [ht])
          clear ht
          go_wp2_with (go_at_call 62; refine HCALL.out.mono ?_; rintro e w4 ⟨rfl, ⟨A', h4, h4a⟩, h4g⟩; have hn := HNX.out A' w4 h4a h4 h4g; simp only [if_pos (show (99 : UInt8) = 99 from rfl)] at hn; rw [HNW.out] at hn; have HN := ϕ hn; clear hn h4 h4a h4g)
          go_roundw
          case rel =>
           first
            | exact ⟨k + 1, _, _, by omega, by go_num, rfl, rfl, HN.out⟩
            | ((repeat apply Exists.intro); refine ⟨?_, rfl⟩; exact ⟨k + 1, _, _, by omega, by go_num, rfl, rfl, HN.out⟩)
          case measure => simp [intOf]; omega
        · 
          have ht2 : ((y.size : Int) != 16) = true := by rw [bne_iff_ne]; omega
          have HNW := ϕ (show (decide (y.size ≠ 16) || wrong) = true by simp [ht])
          clear ht
          go_wp2_with (go_at_call 62; refine HCALL.out.mono ?_; rintro e w4 ⟨rfl, ⟨A', h4, h4a⟩, h4g⟩; have hn := HNX.out A' w4 h4a h4 h4g; simp only [if_pos (show (99 : UInt8) = 99 from rfl)] at hn; rw [HNW.out] at hn; have HN := ϕ hn; clear hn h4 h4a h4g)
          go_roundw
          case rel =>
           first
            | exact ⟨k + 1, _, _, by omega, by go_num, rfl, rfl, HN.out⟩
            | ((repeat apply Exists.intro); refine ⟨?_, rfl⟩; exact ⟨k + 1, _, _, by omega, by go_num, rfl, rfl, HN.out⟩)
          case measure => simp [intOf]; omega
      by_cases h115 : x = 115
      · subst h115
        have e99 : (((115 : UInt8).toNat : Int) == 99) = false := rfl
        have e115 : (((115 : UInt8).toNat : Int) == 115) = true := rfl
        obtain ⟨y, b, o, n, cp, rfl, h4, h5, hcell, hnext⟩ := HAT.out.text HX1.out (by decide) HWF.out
        have HNX := ϕ hnext
        have HCALL := ϕ (s_any wr w2.heap.size kind b o n cp y _ _ _ HAT.out.f hcell h4 h5)
        clear hnext h4 h5 hcell
        by_cases ht : 32768 < y.size
        · 
          have ht2 : decide ((32768 : Int) < y.size) = true := by simp; omega
          have HNW := ϕ (show (decide (32768 < y.size) || big) = true by simp [ht])
          clear ht
          go_wp2_with (go_at_call 62; refine HCALL.out.mono ?_; rintro e w4 ⟨rfl, ⟨A', h4, h4a⟩, h4g⟩; have hn := HNX.out A' w4 h4a h4 h4g; simp only [if_neg (show ¬ (115 : UInt8) = 99 by decide)] at hn; rw [HNW.out] at hn; have HN := ϕ hn; clear hn h4 h4a h4g)
          go_roundw
          case rel =>
           first
            | exact ⟨k + 1, _, _, by omega, by go_num, rfl, rfl, HN.out⟩
            | ((repeat apply Exists.intro); refine ⟨?_, rfl⟩; exact ⟨k + 1, _, _, by omega, by go_num, rfl, rfl, HN.out⟩)
          case measure => simp [intOf]; omega
        · 
          have ht2 : decide ((32768 : Int) < y.size) = false := by simp; omega
          have HNW := ϕ (show (decide (32768 < y.size) || big) = big by simp [ht])
          clear ht
          go_wp2_with (go_at_call 62; refine HCALL.out.mono ?_; rintro e w4 ⟨rfl, ⟨A', h4, h4a⟩, h4g⟩; have hn := HNX.out A' w4 h4a h4 h4g; simp only [if_neg (show ¬ (115 : UInt8) = 99 by decide)] at hn; rw [HNW.out] at hn; have HN := ϕ hn; clear hn h4 h4a h4g)
          go_roundw
          case rel =>
           first
            | exact ⟨k + 1, _, _, by omega, by go_num, rfl, rfl, HN.out⟩
            | ((repeat apply Exists.intro); refine ⟨?_, rfl⟩; exact ⟨k + 1, _, _, by omega, by go_num, rfl, rfl, HN.out⟩)
          case measure => simp [intOf]; omega
      by_cases h114 : x = 114
      · subst h114
        have e99 : (((114 : UInt8).toNat : Int) == 99) = false := rfl
        have e115 : (((114 : UInt8).toNat : Int) == 115) = false := rfl
        have e114 : (((114 : UInt8).toNat : Int) == 114) = true := rfl
        obtain ⟨y, b, o, n, cp, rfl, h4, h5, hcell, hnext⟩ := HAT.out.text HX1.out (by decide) HWF.out
        have HNX := ϕ hnext
        have HCALL := ϕ (s_any wr w2.heap.size kind b o n cp y _ _ _ HAT.out.f hcell h4 h5)
        clear hnext h4 h5 hcell
        by_cases ht : 32768 < y.size
        · 
          have ht2 : decide ((32768 : Int) < y.size) = true := by simp; omega
          have HNW := ϕ (show (decide (32768 < y.size) || big) = true by simp [ht])
          clear ht
          go_wp2_with (go_at_call 62; refine HCALL.out.mono ?_; rintro e w4 ⟨rfl, ⟨A', h4, h4a⟩, h4g⟩; have hn := HNX.out A' w4 h4a h4 h4g; simp only [if_neg (show ¬ (114 : UInt8) = 99 by decide)] at hn; rw [HNW.out] at hn; have HN := ϕ hn; clear hn h4 h4a h4g)
          go_roundw
          case rel =>
           first
            | exact ⟨k + 1, _, _, by omega, by go_num, rfl, rfl, HN.out⟩
            | ((repeat apply Exists.intro); refine ⟨?_, rfl⟩; exact ⟨k + 1, _, _, by omega, by go_num, rfl, rfl, HN.out⟩)
          case measure => simp [intOf]; omega
        · 
          have ht2 : decide ((32768 : Int) < y.size) = false := by simp; omega
          have HNW := ϕ (show (decide (32768 < y.size) || big) = big by simp [ht])
          clear ht
          go_wp2_with (go_at_call 62; refine HCALL.out.mono ?_; rintro e w4 ⟨rfl, ⟨A', h4, h4a⟩, h4g⟩; have hn := HNX.out A' w4 h4a h4 h4g; simp only [if_neg (show ¬ (114 : UInt8) = 99 by decide)] at hn; rw [HNW.out] at hn; have HN := ϕ hn; clear hn h4 h4a h4g)
          go_roundw
          case rel =>
           first
            | exact ⟨k + 1, _, _, by omega, by go_num, rfl, rfl, HN.out⟩
            | ((repeat apply Exists.intro); refine ⟨?_, rfl⟩; exact ⟨k + 1, _, _, by omega, by go_num, rfl, rfl, HN.out⟩)
          case measure => simp [intOf]; omega
      by_cases h110 : x = 110
      · subst h110
        have e99 : (((110 : UInt8).toNat : Int) == 99) = false := rfl
        have e115 : (((110 : UInt8).toNat : Int) == 115) = false := rfl
        have e114 : (((110 : UInt8).toNat : Int) == 114) = false := rfl
        have e110 : (((110 : UInt8).toNat : Int) == 110) = true := rfl
        obtain ⟨y, b, o, n, cp, xa, xn, xc, rfl, h4, h5, hcell, hyn, hyc, hRy, ⟨hy1, hy2, hy3⟩, hnext⟩ := HAT.out.names HX1.out HWF.out
        have HNX := ϕ hnext
        have HCALL := ϕ (n_any wr w2.heap.size kind b o n cp xa xn xc _ _ _ HAT.out.f hcell h4 h5)
        have HNM := ϕ (show ∀ W, Below w.heap.size w W → _ from fun W hW => names_any W xa xn xc y hyn hyc (by omega) (hRy.below hW) (fun z hz => by have := hy3 z hz; omega) hy2)
        have HBR := ϕ HAT.out.b
        clear hnext h4 h5 hcell hyn hyc hRy hy1 hy2 hy3
        generalize hall : y.all okN = all at *
        generalize hfit : decide ((joinC y).length ≤ 4096) = fit at *
        have HFT := ϕ (show decide (4096 < (joinC y).length) = !fit by rw [← hfit]; by_cases h : (joinC y).length ≤ 4096 <;> simp [h] <;> omega)
        clear hall hfit
        rw [HFT.out] at HNX
        cases all <;> cases fit <;> cases wrong <;> cases big
        all_goals
         go_wp2_with (first | (go_at_call 64; refine HCALL.out.mono ?_; rintro e w4 ⟨rfl, ⟨A', h4, h4a⟩, h4g⟩; have HB4 := ϕ (Below.grow2 HBR.out h4g HWF.out); have HN4 := ϕ (fun wz hz => HNX.out A' w4 wz h4a h4 h4g hz); clear h4 h4a h4g) | (go_at_call 63; refine (HNM.out _ HB4.out).mono ?_; rintro e w5 ⟨rfl, hb5⟩; have HN := ϕ (HN4.out w5 hb5); clear hb5))
         go_roundw
         case rel =>
          first
           | exact ⟨k + 1, _, _, by omega, by go_num, rfl, rfl, HN.out⟩
           | ((repeat apply Exists.intro); refine ⟨?_, rfl⟩; exact ⟨k + 1, _, _, by omega, by go_num, rfl, rfl, HN.out⟩)
         case measure => simp [intOf]; omega
      have HN := ϕ (HAT.out.skip HX1.out h99 h115 h114 h110)
      have e99 : ((x.toNat : Int) == 99) = false := EQ.out 99 h99
      have e115 : ((x.toNat : Int) == 115) = false := EQ.out 115 h115
      have e114 : ((x.toNat : Int) == 114) = false := EQ.out 114 h114
      have e110 : ((x.toNat : Int) == 110) = false := EQ.out 110 h110
      clear h99 h115 h114 h110
      go_wp2_with fail
      go_roundw
      case rel =>
       first
        | exact ⟨k + 1, _, _, by omega, by go_num, rfl, rfl, HN.out⟩
        | ((repeat apply Exists.intro); refine ⟨?_, rfl⟩; exact ⟨k + 1, _, _, by omega, by go_num, rfl, rfl, HN.out⟩)
      case measure => simp [intOf]; omega
    · obtain rfl : k = q := by omega
      have HLQ2 := ϕ HLQ.out
      have hd0 : decide (k < ls.size) = false := by have := HLQ2.out; simp; omega
      have hnk : ¬ k < ls.size := by have := HLQ2.out; omega
      have HRR := ϕ (show R = (wrong, big) by have := HAT.out.c; rw [List.drop_of_length_le (by rw [HQ.out]; exact Nat.le_refl _)] at this; exact this.symm)
      have ec1 : wr.cell? ⟨3, 0, none⟩ = some (.iface 271 (.pointer (some (a 1)))) := (HE.out.below HAT.out.b).cell 0 (by decide)
      have ec4 : wr.cell? ⟨6, 0, none⟩ = some (.iface 271 (.pointer (some (a 4)))) := (HE.out.below HAT.out.b).cell 3 (by decide)
      cases wrong
      · cases big
        · go_wp2_with fail
          go_ret
          exact ⟨by rw [HC.out, HRR.out]; rfl, HAT.out.b⟩
        · go_wp2_with fail
          go_ret
          exact ⟨by rw [HC.out, HRR.out]; rfl, HAT.out.b⟩
      · go_wp2_with fail
        go_ret
        exact ⟨by rw [HC.out, HRR.out]; rfl, HAT.out.b⟩
theorem Check_good (w : World) (a : Nat → Addr) (hE : ErrsM w a) (hT : TabR w) (m : Msg) (vu vs vn vb : Value) (hm : IsMsg w m vu vs vn vb) (hf : Fit m) (hc : counted (ltr m.kind) m = true) :
 Calls prog 30 #[.agg (mC m.kind vu vs vn vb)] w fun e w' => e = .returned (Ei.evA a (checkC m)) ∧ Below w.heap.size w w' :=
 Check_core w a hE hT m vu vs vn vb hm hf (fun W au aS an ab cu cs cn cb l hk hl => by
  rw [← hk] at hc
  simp only [counted, Bool.and_eq_true, decide_eq_true_eq] at hc
  obtain ⟨⟨⟨h0, h1⟩, h2⟩, h3⟩ := hc
  have e0 : cntL l [117] = l.count 117 := by simp [cntL]
  have e1 : cntL l [115, 99, 114] = cntS l := by simp [cntL, cntS]; omega
  have e2 : cntL l [110] = l.count 110 := by simp [cntL]
  have e3 : cntL l [98] = l.count 98 := by simp [cntL]
  simpa [h0, h1, h2, h3] using counted_f4 W m.kind au aS an ab _ _ _ _ cu cs cn cb l hl (h0.trans e0.symm) (h1.trans e1.symm) (h2.trans e2.symm) (h3.trans e3.symm))
theorem counted_ok {m : Msg} (h : checkC m = 0) : counted (ltr m.kind) m = true := by
 unfold checkC at h
 split at h
 · omega
 · split at h
   · omega
   · rename_i hc
     simpa using hc
end Mg
namespace Au
open Go.RowKit Go.Proofs.YtciibogkfbicfaaGreatDoor.Wi Go.Proofs.YtciibogkfbicfaaGreatDoor.Ow Go.Proofs.YtciibogkfbicfaaGreatDoor.Be Go.Proofs.YtciibogkfbicfaaGreatDoor.Bl Go.Proofs.YtciibogkfbicfaaGreatDoor.Cv Go.Proofs.YtciibogkfbicfaaGreatDoor.Kx Go.Proofs.YtciibogkfbicfaaGreatDoor.Mg
theorem _root_.Go.Proofs.YtciibogkfbicfaaGreatDoor.Mg.ErrsM.ofA {w : World} {a : Nat → Addr} (h : Ei.ErrsA w a) : ErrsM w a := ⟨fun k hk => h.cell k (by
 have : k = 0 ∨ k = 1 ∨ k = 2 ∨ k = 3 ∨ k = 19 := by omega
 rcases this with rfl | rfl | rfl | rfl | rfl <;> decide)⟩
def MsgAt (w : World) (v : Value) (m : Msg) : Prop := ∃ vu vs vn vb, v = .agg (mC m.kind vu vs vn vb) ∧ IsMsg w m vu vs vn vb
theorem MsgAt.below {w w' : World} {v : Value} {m : Msg} (h : MsgAt w v m) (hb : Below w.heap.size w w') : MsgAt w' v m := by
 obtain ⟨vu, vs, vn, vb, e, h⟩ := h
 exact ⟨vu, vs, vn, vb, e, h.below hb⟩
theorem MsgAt.zero (w : World) : MsgAt w (.agg askZ) zeroM := ⟨_, _, _, _, rfl, SL.nil w, SL.nil w, SLN.nil w, SL.nil w⟩
theorem sl_blk {w : World} {g T : Nat} {xs : List Value} (h : Rg.Blk w g T xs.toArray) (hm : xs.length ≤ maxLen) : SL w (.slice (some ⟨g, 0, none⟩) xs.length xs.length) xs :=
 ⟨_, _, _, rfl, rfl, fun j x hx => ⟨g, 0, rfl, h.lt, by rw [Nat.zero_add]; exact h.cell j (by rw [List.getElem?_toArray]; exact hx)⟩, Nat.le_refl _, hm⟩
theorem MsgAt.texts {w : World} {g T : Nat} {k : Int} {xs : List ByteArray} (h : Rg.Blk w g T (xs.map Value.string).toArray) (n : Nat) (hn : n = xs.length) (hm : n ≤ 100) : MsgAt w (.agg (askV k g n)) ⟨k, [], xs, [], []⟩ := by
 subst hn
 have e : (xs.map Value.string).length = xs.length := by simp
 have := sl_blk h (by rw [e]; unfold maxLen; omega)
 rw [e] at this
 exact ⟨_, _, _, _, rfl, SL.nil w, this, SLN.nil w, SL.nil w⟩
theorem MsgAt.kind {w : World} {k : Int} : MsgAt w (.agg (mC k (.slice none 0 0) (.slice none 0 0) (.slice none 0 0) (.slice none 0 0))) ⟨k, [], [], [], []⟩ := ⟨_, _, _, _, rfl, SL.nil w, SL.nil w, SLN.nil w, SL.nil w⟩
theorem MsgAt.fail {w : World} {g1 g2 g3 : Nat} (h1 : Rg.Blk w g1 9 #[.string methB]) (h2 : Rg.Blk w g2 31 #[.slice (some ⟨g1, 0, none⟩) 1 1]) (h3 : Rg.Blk w g3 4 #[.bool false]) : MsgAt w (.agg (failV g2 g3)) failM := by
 refine ⟨_, _, _, _, rfl, SL.nil w, SL.nil w, ⟨[.slice (some ⟨g1, 0, none⟩) 1 1], sl_blk h2 (Nat.le_of_ble_eq_true rfl), rfl, fun j l hl => ?_⟩, sl_blk (xs := [.bool false]) h3 (Nat.le_of_ble_eq_true rfl)⟩
 cases j with
 | zero =>
  simp only [failM, List.getElem?_cons_zero, Option.some.injEq] at hl
  subst hl
  exact ⟨_, rfl, sl_blk (xs := [.string methB]) h1 (Nat.le_of_ble_eq_true rfl)⟩
 | succ j => simp [failM] at hl
theorem conn_list : connB.toList = [115, 115, 104, 45, 99, 111, 110, 110, 101, 99, 116, 105, 111, 110] := by rw [ByteArray.toList_eq]; unfold connB; rfl
theorem meth_list : methB.toList = [112, 117, 98, 108, 105, 99, 107, 101, 121] := by rw [ByteArray.toList_eq]; unfold methB; rfl
theorem auth_list : authB.toList = [115, 115, 104, 45, 117, 115, 101, 114, 97, 117, 116, 104] := by rw [ByteArray.toList_eq]; unfold authB; rfl
theorem ten_nil (t : List UInt8) : (mkS t).toList.isEmpty = decide (t = []) := by
 rw [ByteArray.toList_eq, show (mkS t).data.toList = t from mkS_list t]
 cases t <;> rfl
def Did (w : World) (P : Nat → Prop) (b sb bo bw T K N : Nat) (L : List St.Pr) (id : List UInt8) (most : Nat) (a : Nat → Addr) (r : Nat × Msg × Sv) (e : Ending) (w' : World) : Prop :=
 ∃ v, e = .returned (.tuple #[v, Ei.evA a r.1]) ∧ MsgAt w' v r.2.1 ∧ IsSv w' P b sb bo bw T K N L id most r.2.2 ∧ Sp.Upd w w' [b]
theorem cells_of {w : World} {v : Value} {xs : List ByteArray} (h : SL w v (xs.map Value.string)) (hn : 0 < xs.length) : ∃ g o c, v = .slice (some ⟨g, o, none⟩) xs.length c ∧ xs.length ≤ c ∧ ∀ W, Below w.heap.size w W → ∀ (j : Nat) x, xs[j]? = some x → W.cell? ⟨g, o + j, none⟩ = some (.string x) := by
 obtain ⟨A, n, c, hv, hl, hr, hc, hm⟩ := h
 obtain ⟨g, o, hA, hg, hx⟩ := hr.place (by simpa using hn)
 rw [List.length_map] at hl
 refine ⟨g, o, c, by rw [hv, hA, hl], by omega, fun W hW j x hj => ?_⟩
 rw [hW.cell (p := ⟨g, o + j, none⟩) hg]
 exact hx j _ (by rw [List.getElem?_map, hj]; rfl)
theorem srv_one {us : List Nat} {ss : List ByteArray} {nn : List (List ByteArray)} {bs : List Bool} (h : checkC ⟨5, us, ss, nn, bs⟩ = 0) : ∃ x, ss = [x] := by
 unfold checkC at h
 simp only [l5, k5] at h
 rw [if_neg (by decide)] at h
 split at h
 · omega
 · rename_i hc
   simp only [counted, Bool.not_eq_false, Bool.and_eq_true, decide_eq_true_eq] at hc
   have h1 : ss.length = 1 := hc.1.1.2
   match ss, h1 with
   | [x], _ => exact ⟨x, rfl⟩
theorem cell_keep {V V4 : World} {b T : Nat} {cs : Array Value} {u v : Bool} {g o : Nat} {x : ByteArray} (hB : Rg.Blk V b T cs) (hB4 : Rg.Blk V4 b T (cs.setIfInBounds 34 (.bool v))) (hg : V.grownBy V4 (some b)) (h34 : cs[34]? = some (.bool u)) (hc : V.cell? ⟨g, o, none⟩ = some (.string x)) : V4.cell? ⟨g, o, none⟩ = some (.string x) := by
 by_cases e : g = b
 · subst e
   have h1 : cs[o]? = some (.string x) := by
    unfold Rg.Blk at hB
    unfold World.cell? at hc
    simpa [hB] using hc
   have ho : o ≠ 34 := fun e => by rw [e, h34] at h1; cases h1
   exact hB4.cell o (by rw [Array.getElem?_setIfInBounds_ne (fun e => ho e.symm)]; exact h1)
 · exact hg.cell hc (fun h => e (Option.some.inj h))
theorem sv_auth (w : World) (a : Nat → Addr) (hE : Ei.ErrsA w a) (hT : TabR w) (P : Nat → Prop) (b sb bo bw T K N : Nat) (L : List St.Pr) (id : List UInt8) (most : Nat) (st : Sv) (h : IsSv w P b sb bo bw T K N L id most st) (kind : Int) (us : List Nat) (ss : List ByteArray) (nn : List (List ByteArray)) (bs : List Bool) (vu vs vn vb : Value) (hm : IsMsg w ⟨kind, us, ss, nn, bs⟩ vu vs vn vb) (hf : Fit ⟨kind, us, ss, nn, bs⟩) (hk : kind = 5) (hn : checkC ⟨kind, us, ss, nn, bs⟩ = 0) (x0 : ByteArray) (hx : ss = [x0]) (h1 : x0 = authB) : Calls prog 21 #[.pointer (some ⟨b, 0, none⟩), .agg (mC kind vu vs vn vb)] w (Did w P b sb bo bw T K N L id most a (0, accM authB, { st with acc := true })) := by
 have HSV := ϕ h
 have HSW := ϕ h
 have HLB := ϕ (show b < w.heap.size by obtain ⟨cs, h1, _⟩ := h.blk; exact h1.lt)
 have hc0 : checkC ⟨kind, us, ss, nn, bs⟩ = 0 := hn
 have HCK := ϕ (show ∀ W, Below w.heap.size w W → Calls prog 30 #[.agg (mC kind vu vs vn vb)] W fun e w' => e = .returned (.nilIface) ∧ Below W.heap.size W w' from fun W hW => by
  have := Check_good W a (ErrsM.ofA (hE.below hW)) (hT.below hW) ⟨kind, us, ss, nn, bs⟩ vu vs vn vb (hm.below hW) hf (counted_ok hc0)
  rw [hc0, Ei.evA_zero] at this
  exact this)
 subst hk
 obtain ⟨x, hss⟩ : ∃ x, ss = [x] := srv_one hc0
 subst hss
 obtain ⟨gb, go, gc, hvs, hgc, hcl⟩ := cells_of (xs := [x]) hm.s (Nat.zero_lt_succ _)
 subst hvs
 have HCL := ϕ (show ∀ W, Below w.heap.size w W → W.cell? ⟨gb, go, none⟩ = some (.string x) from fun W hW => hcl W hW 0 x rfl)
 have hgc : (1 : Int) ≤ gc := by exact_mod_cast hgc
 clear h hE hT hm hf hc0 hn hcl
 obtain rfl : x = x0 := by simpa using hx
 subst h1
 clear hx
 go_enter func21, ntmps21
 go_upto_region 1 with ((with_reducible refine qd_ ?_); refine Rg.qh_ rfl 39 _ rfl (mC 5 vu (.slice (some ⟨gb, go, none⟩) 1 gc) vn vb) rfl ?_; intro V1 hK hbV hnV; have HM := ϕ hK; have HB := ϕ hbV; clear hK hbV hnV)
 obtain ⟨mb, hmb⟩ : ∃ n, w.heap.size = n := exr
 obtain ⟨rb, hrb⟩ : ∃ n, V1.heap.size = n := exr
 obtain ⟨V2, hV2⟩ : ∃ Y, V1.alloc (.cells askZ 39) = Y := exr
 have al : Below V1.heap.size V1 V2 := by rw [← hV2]; exact (Below.refl _ _).alloc (Nat.le_refl _) _
 have HMR := ϕ (show mb < rb from by rw [← hmb, ← hrb]; exact HM.out.lt)
 have HWM := ϕ (show w.heap.size ≤ mb from Nat.le_of_eq hmb)
 have HR := ϕ (show Rg.Blk V2 rb 39 askZ from by rw [← hrb, ← hV2]; exact Rg.Blk.new V1 _ _)
 have HM := ϕ (show Rg.Blk V2 mb 39 (mC 5 vu (.slice (some ⟨gb, go, none⟩) 1 gc) vn vb) from by rw [← hmb]; exact HM.out.below al HM.out.lt)
 have HB := tm HB al
 have HS := ϕ (HSV.out.below HB.out)
 try rw [show (#[.int .i64 0, .slice none 0 0, .slice none 0 0, .slice none 0 0, .slice none 0 0] : Array Value) = askZ from rfl]
 try rw [hmb]
 try rw [hV2]
 try rw [hrb]
 clear hmb hrb hV2 al HSV
 have c0 := HM.out.cell 0 (v := .int .i64 5) rfl
 go_upto_region 3 with (first
  | ((with_reducible refine qd_ ?_); refine load_blk_g (by rfl) 39 _ rfl mb (mC 5 vu (.slice (some ⟨gb, go, none⟩) 1 gc) vn vb) 39 rfl HM.out underlying39 rfl (by kernel_rfl) ?_; skip)
  | (go_at_call 30; refine (HCK.out _ HB.out).mono ?_; rintro e V3 ⟨rfl, hb1⟩; have HM := ϕ (HM.out.below hb1 HM.out.lt); have HR := ϕ (HR.out.below hb1 HR.out.lt); have HS := ϕ (HS.out.below hb1); have HB := tm HB hb1; clear hb1))
 clear c0
 have c2 := HM.out.cell 2 (v := .slice (some ⟨gb, go, none⟩) 1 gc) rfl
 have c3 := HCL.out V3 HB.out
 have HSB := HS.out.blk
 obtain ⟨cs, HCB, HCC⟩ : ∃ cs, Hid (Rg.Blk V3 b 114 cs) ∧ Hid (SvC cs sb id most st) := by obtain ⟨cs, h1, h2⟩ := HSB; exact ⟨cs, ϕ h1, ϕ h2⟩
 clear HSB
 have k0 := auth_list
 go_upto_region 8 with fail
 clear k0
 have HCS := ϕ (show 34 < cs.size by rw [HCC.out.size]; decide)
 have HC3 := ϕ c3
 clear c3 c2
 go_upto_region 9 with ((with_reducible refine qd_ ?_); refine store_one rfl 4 _ _ rfl b 34 (.bool true) cs 114 rfl rfl rfl HCB.out (by kernel_rfl) HCS.out rfl ?_; intro V4 hV hgV; have HCB4 := ϕ hV; have HG := ϕ hgV; clear hV hgV)
 have HBR := ϕ (show ¬ b = rb from by have := HLB.out; have := HWM.out; have := HMR.out; omega)
 have HBM := ϕ (show ¬ b = mb from by have := HLB.out; have := HWM.out; omega)
 have HR := ϕ (qb_ HR.out HG.out HBR.out)
 have HM := ϕ (qb_ HM.out HG.out HBM.out)
 have HU := ϕ (show Sp.Upd w V4 [b] from Sp.Upd.trans (Sp.Upd.trans (Sp.Upd.refl w [b]) (Sp.Upd.of_below HB.out) (by simp)) (Sp.Upd.of_grown1 HG.out) (fun q hq => .inl hq))
 have c2 := HM.out.cell 2 (v := .slice (some ⟨gb, go, none⟩) 1 gc) rfl
 have c3 := cell_keep HCB.out HCB4.out HG.out HCC.out.acc HC3.out
 obtain ⟨A1, hA1⟩ : ∃ Y, V4.alloc (.cells #[.string authB] 9) = Y := exr
 have l1 : Below V4.heap.size V4 A1 := by rw [← hA1]; exact (Below.refl _ _).alloc (Nat.le_refl _) _
 have b1 : Rg.Blk A1 V4.heap.size 9 #[.string authB] := by rw [← hA1]; exact Rg.Blk.new V4 _ _
 have HB1 := ϕ b1
 have HRV := ϕ HR.out.lt
 have HR := ϕ (HR.out.below l1 HR.out.lt)
 have HCB5 := ϕ (HCB4.out.below l1 HCB4.out.lt)
 have HU := ϕ (Sp.Upd.trans HU.out (Sp.Upd.of_below l1) (by simp))
 have HA := ϕ hA1
 clear hA1 l1 b1
 go_wp2_with (rw [HA.out]; refine Cv.qs_ rfl 39 _ _ rfl rb (askV 6 V4.heap.size 1) askZ 39 rfl rfl HR.out (by kernel_rfl) (by kernel_rfl) (by unfold askV; simp [Value.oneCell']) ?_; intro Z hZ hgZ; have HZ := ϕ hZ; have HGZ := ϕ hgZ; clear hZ hgZ)
 have HR := HZ
 have e1 := HRV.out
 have e3 := HWM.out
 have e4 := HMR.out
 have hu := Sp.Upd.trans HU.out (Sp.Upd.of_grown1 HGZ.out) (fun q hq => .inr (by simp at hq; omega))
 refine bodyPost_ret (v := .tuple #[.agg (askV 6 V4.heap.size 1), .nilIface])
  (Bl.jk_ results21 _ _ rb 39 _ (0, 0) _ rfl HR.out underlying39 rfl (by kernel_rfl)) rfl ?_
 exact ⟨_, rfl, MsgAt.texts (xs := [authB]) (qb_ HB1.out HGZ.out (by omega)) 1 rfl (by decide), HSW.out.upd hu (qb_ HCB5.out HGZ.out (fun e => HBR.out e.symm)) HCC.out.setAcc, hu⟩
end Au
namespace St
open Go.RowKit Go.Proofs.YtciibogkfbicfaaGreatDoor.Ow Go.Proofs.YtciibogkfbicfaaGreatDoor.Mp Go.Maps
theorem qg_ {P : Program} {o : Oper} {a : Act} {w : World} {K : Act → World → Prop} {Q : Exit → Act → World → Prop} (ty : TypeId) (x y : Operand) (ho : o.op = .store ty x y)
 (b : Nat) (cs old : Array Value) (T : TypeId) (hx : a.eval x = .pointer (some ⟨b, 0, none⟩)) (hy : a.eval y = .agg cs) (hB : Rg.Blk w b T old)
 (hi : (P.info? ty).map (·.size) = some cs.size) (hold : old.size = cs.size) (h1 : cs.all (·.oneCell') = true)
 (h : ∀ X, Rg.Blk X b T cs → w.grownBy X (some b) → K (a.put o.dst undef) X) : Oper.wp P o a w K Q :=
 wp_store_row ty x y ho b cs hx hy T old hB hi hold h1 (h _ hB.setRow ⟨rfl, rfl, rfl, by simp, fun k _ hk => setRow_other w b k cs (fun e => hk (congrArg some e))⟩)
theorem bdN {B : Nat} {w w' : World} (h : Below B w w') (n : Nat) : Below B w (w'.drewN n) := ⟨h.os, h.tape, h.output, h.size, h.block⟩
theorem look_who {w : World} {sb bo bw T K N : Nat} {L : List Pr} (h : IsSt w sb bo bw T K N L) (k : List UInt8) (hk : k.length = 32) :
 (Instr.lookup 106 (.map (some bw)) (.agg (Cv.bytesV k)) true).run prog w = .ok (.tuple #[((whoOf L k).map fun t => Value.agg #[.string (strB t)]).getD (.agg #[.string ⟨#[]⟩]), .bool (whoOf L k).isSome]) w := by
 obtain ⟨_, _, _, _, g, s, hg, hgx⟩ := h
 have hz : (zeroValue 154).run prog w = .ok (.agg #[.string ⟨#[]⟩]) w := by kernel_rfl
 have := hg.lookOk keyed_key underlying106 hz (key32 k hk)
 rw [hgx] at this
 rw [this]
 cases whoOf L k <;> rfl
theorem Lookup_some (w : World) (sb bo bw T K N : Nat) (L : List Pr) (h : IsSt w sb bo bw T K N L) (k : List UInt8) (hk : k.length = 32) (t : List UInt8) (hw : whoOf L k = some t) :
 Calls prog 49 #[.pointer (some ⟨sb, 0, none⟩), .agg (Cv.bytesV k)] w fun e w' => e = .returned (.tuple #[.string (strB t), .nilIface]) ∧ Below w.heap.size w w' := by
 have HS := ϕ h
 have HK := ϕ hk
 have HV := ϕ (show (Cv.bytesV k).size = 32 by rw [Cv.qa_, hk])
 have HW := ϕ hw
 clear h hk hw
 go_enter func49, ntmps49
 go_upto_region 1 with (refine Rg.qh_ rfl 22 _ rfl (Cv.bytesV k) rfl ?_; intro X hX hbX hnX; have HX := ϕ hX; have HBX := ϕ hbX; clear hX hbX hnX)
 have HSX := ϕ (HS.out.below HBX.out)
 refine RL.start (RL.Aft X) (by kernel_rfl) (RL.Aft.drew (RL.Aft.refl X)) ?_
 refine RL.tu 0 ?_; go_frame
 refine RL.tu 1 ?_; go_frame
 refine RL.tu 2 ?_; go_frame
 refine' RL.tv 3 ?hk4 ?_
 case hk4 => (intro W hSW; have c3 := (HSX.out.below hSW).1.cell 3 (v := .map (some bw)) rfl; go_simp; try with_reducible rfl)
 try go_frame
 refine RL.tw 4 (v := .agg (Cv.bytesV k)) rfl (fun W hSW => RT.qy_ 22 _ rfl _ rfl _ _ (HX.out.below hSW HX.out.lt) underlying22 rfl (by rw [HV.out]; kernel_rfl)) ?_
 try go_frame
 refine' RL.tw 5 (v := .tuple #[.agg #[.string (strB t)], .bool true]) rfl ?hk5True ?_
 case hk5True => (intro W hSW; have hl := look_who (HSX.out.below hSW) k HK.out; rw [HW.out] at hl; simp only [Option.map_some, Option.map_none, Option.getD_some, Option.getD_none, Option.isSome_some, Option.isSome_none] at hl; go_simp; try with_reducible rfl)
 try go_frame
 refine RL.tu 6 ?_; go_frame
 refine RL.tu 7 ?_; go_frame
 refine RL.tu 8 ?_; go_frame
 refine RL.sk 9 (fun wa hlwa hswa K hK => ?_)
 go_simp
 have HLA := ϕ hswa
 refine hK.out _ _ (RL.Aft.alloc hswa _) ?_
 clear hK
 try go_frame
 refine RL.sk 10 (fun wb hlwb hswb K hK => ?_)
 have hba := (Rg.Blk.new wa #[.string ⟨#[]⟩] 154).below hlwb (by simp)
 refine qg_ 154 _ _ rfl wa.heap.size #[.string (strB t)] #[.string ⟨#[]⟩] 154 rfl rfl hba (by kernel_rfl) rfl (by simp [Value.oneCell']) ?_
 intro Y hY hgY
 have HY := ϕ hY
 have HAY := ϕ (show RL.Aft X Y from Below.grown hswb hgY hswb.size (fun k hk => by cases hk; exact HLA.out.size))
 refine hK.out _ _ HAY.out ?_
 clear hK
 try go_frame
 refine RL.tu 11 ?_; go_frame
 refine RL.done (by kernel_rfl) (fun wd hlwd hswd => ?_)
 have hd0 := (HY.out.below hlwd HY.out.lt).cell 0 (v := .string (strB t)) rfl
 have HBD := ϕ (HBX.out.trans (Below.mono hswd HBX.out.size))
 clear hlwd hswd
 go_wp2
 go_ret2
 exact ⟨rfl, HBD.out⟩
theorem Lookup_none (w : World) (sb bo bw T K N : Nat) (L : List Pr) (h : IsSt w sb bo bw T K N L) (k : List UInt8) (hk : k.length = 32) (a : Nat → Addr) (hE : Ei.ErrsA w a) (hw : whoOf L k = none) :
 Calls prog 49 #[.pointer (some ⟨sb, 0, none⟩), .agg (Cv.bytesV k)] w fun e w' => e = .returned (.tuple #[.string ⟨#[]⟩, .iface 271 (.pointer (some (a 8)))]) ∧ Below w.heap.size w w' := by
 have HS := ϕ h
 have HK := ϕ hk
 have HV := ϕ (show (Cv.bytesV k).size = 32 by rw [Cv.qa_, hk])
 have HW := ϕ hw
 have HE := ϕ (fun W (hW : Below w.heap.size w W) => show W.cell? ⟨9, 0, none⟩ = some (.iface 271 (.pointer (some (a 8)))) from (hE.below hW).cell 7 (by decide))
 clear hE
 clear h hk hw
 go_enter func49, ntmps49
 go_upto_region 1 with (refine Rg.qh_ rfl 22 _ rfl (Cv.bytesV k) rfl ?_; intro X hX hbX hnX; have HX := ϕ hX; have HBX := ϕ hbX; clear hX hbX hnX)
 have HSX := ϕ (HS.out.below HBX.out)
 refine RL.start (RL.Aft X) (by kernel_rfl) (RL.Aft.drew (RL.Aft.refl X)) ?_
 refine RL.tu 0 ?_; go_frame
 refine RL.tu 1 ?_; go_frame
 refine RL.tu 2 ?_; go_frame
 refine' RL.tv 3 ?hk12 ?_
 case hk12 => (intro W hSW; have c3 := (HSX.out.below hSW).1.cell 3 (v := .map (some bw)) rfl; go_simp; try with_reducible rfl)
 try go_frame
 refine RL.tw 4 (v := .agg (Cv.bytesV k)) rfl (fun W hSW => RT.qy_ 22 _ rfl _ rfl _ _ (HX.out.below hSW HX.out.lt) underlying22 rfl (by rw [HV.out]; kernel_rfl)) ?_
 try go_frame
 refine' RL.tw 5 (v := .tuple #[.agg #[.string ⟨#[]⟩], .bool false]) rfl ?hk5False ?_
 case hk5False => (intro W hSW; have hl := look_who (HSX.out.below hSW) k HK.out; rw [HW.out] at hl; simp only [Option.map_some, Option.map_none, Option.getD_some, Option.getD_none, Option.isSome_some, Option.isSome_none] at hl; go_simp; try with_reducible rfl)
 try go_frame
 refine RL.tu 6 ?_; go_frame
 refine RL.tu 7 ?_; go_frame
 refine RL.tu 8 ?_; go_frame
 refine RL.sk 9 (fun wa hlwa hswa K hK => ?_)
 go_simp
 have HLA := ϕ hswa
 refine hK.out _ _ (RL.Aft.alloc hswa _) ?_
 clear hK
 try go_frame
 refine RL.sk 10 (fun wb hlwb hswb K hK => ?_)
 have hba := (Rg.Blk.new wa #[.string ⟨#[]⟩] 154).below hlwb (by simp)
 refine qg_ 154 _ _ rfl wa.heap.size #[.string ⟨#[]⟩] #[.string ⟨#[]⟩] 154 rfl rfl hba (by kernel_rfl) rfl (by simp [Value.oneCell']) ?_
 intro Y hY hgY
 have HY := ϕ hY
 have HAY := ϕ (show RL.Aft X Y from Below.grown hswb hgY hswb.size (fun k hk => by cases hk; exact HLA.out.size))
 refine hK.out _ _ HAY.out ?_
 clear hK
 try go_frame
 refine RL.tu 11 ?_; go_frame
 refine RL.done (by kernel_rfl) (fun wd hlwd hswd => ?_)
 have hd0 := (HY.out.below hlwd HY.out.lt).cell 0 (v := .string ⟨#[]⟩) rfl
 have HBD := ϕ (HBX.out.trans (Below.mono hswd HBX.out.size))
 have hd1 := HE.out wd HBD.out
 clear hlwd hswd
 go_wp2
 go_quiet (fail)
 go_wp2
 go_ret2
 exact ⟨rfl, bdN HBD.out _⟩
end St
namespace Au
open Go.RowKit Go.Proofs.YtciibogkfbicfaaGreatDoor.Wi Go.Proofs.YtciibogkfbicfaaGreatDoor.Ow Go.Proofs.YtciibogkfbicfaaGreatDoor.Be Go.Proofs.YtciibogkfbicfaaGreatDoor.Bl Go.Proofs.YtciibogkfbicfaaGreatDoor.Cv Go.Proofs.YtciibogkfbicfaaGreatDoor.Kx Go.Proofs.YtciibogkfbicfaaGreatDoor.Mg
theorem ha_noneT (w : World) (a : Nat → Addr) (hE : Ei.ErrsA w a) (hT : TabR w) (hG : Sg w) (P : Nat → Prop) (b sb bo bw T K N : Nat) (L : List St.Pr) (id : List UInt8) (most : Nat) (st : Sv) (h : IsSv w P b sb bo bw T K N L id most st) (kind : Int) (us : List Nat) (ss : List ByteArray) (nn : List (List ByteArray)) (bs : List Bool) (vu vs vn vb : Value) (hm : IsMsg w ⟨kind, us, ss, nn, bs⟩ vu vs vn vb) (hf : Fit ⟨kind, us, ss, nn, bs⟩) (hk : kind = 50) (hn : checkC ⟨kind, us, ss, nn, bs⟩ = 0) (user cn mt rest : ByteArray) (hss : ss = [user, cn, mt, rest]) (ht : st.ten = []) (hac : st.acc = true) (hmt : st.tries < most) (hml : most ≤ 1000) (hok : RdOk rest) (hBr : rdB rest ≠ 0) (hwh : St.whoOf L (rdK rest) = none) : Calls prog 23 #[.pointer (some ⟨b, 0, none⟩), .agg (mC kind vu vs vn vb)] w (Did w P b sb bo bw T K N L id most a (0, failM, { st with tries := st.tries + 1 })) := by
 have HSV := ϕ h
 have HSW := ϕ h
 have HLB := ϕ (show b < w.heap.size by obtain ⟨cs, h1, _⟩ := h.blk; exact h1.lt)
 have hc0 : checkC ⟨kind, us, ss, nn, bs⟩ = 0 := hn
 have HCK := ϕ (show ∀ W, Below w.heap.size w W → Calls prog 30 #[.agg (mC kind vu vs vn vb)] W fun e w' => e = .returned (.nilIface) ∧ Below W.heap.size W w' from fun W hW => by
  have := Check_good W a (ErrsM.ofA (hE.below hW)) (hT.below hW) ⟨kind, us, ss, nn, bs⟩ vu vs vn vb (hm.below hW) hf (counted_ok hc0)
  rw [hc0, Ei.evA_zero] at this
  exact this)
 subst hk
 have HIS := ϕ (fun W (hW : Below w.heap.size w W) => h.is.below hW)
 obtain ⟨gb, go, gc, hvs, hgc, hcl⟩ := cells_of (xs := [user, cn, mt, rest]) (hss ▸ hm.s) (Nat.zero_lt_succ _)
 have hzu : user.size ≤ 1000000 := hf.s user (by rw [hss]; simp)
 have hzr : rest.size ≤ 1000000 := hf.s rest (by rw [hss]; simp)
 subst hss
 subst hvs
 have HC0 := ϕ (show ∀ W, Below w.heap.size w W → W.cell? ⟨gb, go, none⟩ = some (.string user) from fun W hW => hcl W hW 0 user rfl)
 have HC1 := ϕ (show ∀ W, Below w.heap.size w W → W.cell? ⟨gb, go + 1, none⟩ = some (.string cn) from fun W hW => hcl W hW 1 cn rfl)
 have HC2 := ϕ (show ∀ W, Below w.heap.size w W → W.cell? ⟨gb, go + 2, none⟩ = some (.string mt) from fun W hW => hcl W hW 2 mt rfl)
 have HC3 := ϕ (show ∀ W, Below w.heap.size w W → W.cell? ⟨gb, go + 3, none⟩ = some (.string rest) from fun W hW => hcl W hW 3 rest rfl)
 have hgc : (4 : Int) ≤ gc := by exact_mod_cast hgc
 have HT := ϕ (show (mkS st.ten).toList.isEmpty = true by rw [ten_nil]; simpa using ht)
 clear ht
 have HAC := ϕ hac
 clear hac
 have HMT := ϕ (show decide ((most : Int) ≤ (st.tries : Int)) = false by simp; omega)
 have HMT2 := ϕ (show ¬ (most : Int) ≤ (st.tries : Int) by omega)
 have HTL := ϕ (show st.tries ≤ 1000 by omega)
 clear hmt hml
 obtain ⟨X, hX⟩ : ∃ X, rdX rest = X := exr
 obtain ⟨K1, hK1⟩ : ∃ K, rdK rest = K := exr
 have HKL := ϕ (show K1.length = 32 from by
  have := opR_size (rdX rest) 32 10 (by decide) hok.key
  rw [this.2] at this
  rw [← hK1]
  show (opX (rdX rest)).data.toList.length = 32
  rw [qu_]; exact this.1)
 have HRD := ϕ (show ∀ W, Below w.heap.size w W → Calls prog 53 #[.string rest] W fun e w' => ∃ Z, e = .returned (.tuple #[.agg (tryV X K1 true Z), .nilIface]) ∧ (Z.length = 64 ∧ Z = rdZ rest) ∧ Below W.heap.size W w' from fun W hW => (rd_T W a (hE.below hW) rest hzr (by simpa using hBr) hok.done hok.key hok.word (hok.sig hBr)).mono fun e w' ⟨X0, K0, B0, Z, ev, h1, h2, h3, h4, h5⟩ => by
  rcases h5 with ⟨_, e1, e2, e3, e4, e5⟩ | ⟨h6, _⟩
  · subst e1 e2 e3 e4
    rw [hX, hK1, show decide (rdB rest ≠ 0) = true by simpa using hBr] at h1
    exact ⟨Z, h1, ⟨h3, e5 hBr⟩, h4⟩
  · exact absurd hok h6)
 have HLK := ϕ (show ∀ W, Below w.heap.size w W → Calls prog 49 #[.pointer (some ⟨sb, 0, none⟩), .agg (bytesV K1)] W fun e w' => e = .returned (.tuple #[.string ⟨#[]⟩, .iface 271 (.pointer (some (a 8)))]) ∧ Below W.heap.size W w' from fun W hW => St.Lookup_none W sb bo bw T K N L (HIS.out W hW) K1 HKL.out a (hE.below hW) (by rw [← hK1]; exact hwh))
 clear hX hK1 hok hBr hwh
 clear h hE hT hm hf hc0 hn hcl hG hzu hzr
 go_enter func23, ntmps23
 go_upto_region 1 with ((with_reducible refine qd_ ?_); refine Rg.qh_ rfl 39 _ rfl (mC 50 vu (.slice (some ⟨gb, go, none⟩) 4 gc) vn vb) rfl ?_; intro V1 hK hbV hnV; have HM := ϕ hK; have HB := ϕ hbV; clear hK hbV hnV)
 obtain ⟨mb, hmb⟩ : ∃ n, w.heap.size = n := exr
 obtain ⟨rb, hrb⟩ : ∃ n, V1.heap.size = n := exr
 obtain ⟨V2, hV2⟩ : ∃ Y, V1.alloc (.cells askZ 39) = Y := exr
 have al : Below V1.heap.size V1 V2 := by rw [← hV2]; exact (Below.refl _ _).alloc (Nat.le_refl _) _
 have HMR := ϕ (show mb < rb from by rw [← hmb, ← hrb]; exact HM.out.lt)
 have HWM := ϕ (show w.heap.size ≤ mb from Nat.le_of_eq hmb)
 have HR := ϕ (show Rg.Blk V2 rb 39 askZ from by rw [← hrb, ← hV2]; exact Rg.Blk.new V1 _ _)
 have HM := ϕ (show Rg.Blk V2 mb 39 (mC 50 vu (.slice (some ⟨gb, go, none⟩) 4 gc) vn vb) from by rw [← hmb]; exact HM.out.below al HM.out.lt)
 have HB := tm HB al
 have HS := ϕ (HSV.out.below HB.out)
 try rw [show (#[.int .i64 0, .slice none 0 0, .slice none 0 0, .slice none 0 0, .slice none 0 0] : Array Value) = askZ from rfl]
 try rw [hmb]
 try rw [hV2]
 try rw [hrb]
 clear hmb hrb hV2 al HSV
 have c0 := HM.out.cell 0 (v := .int .i64 50) rfl
 go_upto_region 3 with (first
  | ((with_reducible refine qd_ ?_); refine load_blk_g (by rfl) 39 _ rfl mb (mC 50 vu (.slice (some ⟨gb, go, none⟩) 4 gc) vn vb) 39 rfl HM.out underlying39 rfl (by kernel_rfl) ?_; skip)
  | (go_at_call 30; refine (HCK.out _ HB.out).mono ?_; rintro e V3 ⟨rfl, hb1⟩; have HM := ϕ (HM.out.below hb1 HM.out.lt); have HR := ϕ (HR.out.below hb1 HR.out.lt); have HS := ϕ (HS.out.below hb1); have HB := tm HB hb1; clear hb1))
 clear c0
 have HSB := HS.out.blk
 obtain ⟨cs, HCB, HCC⟩ : ∃ cs, Hid (Rg.Blk V3 b 114 cs) ∧ Hid (SvC cs sb id most st) := by obtain ⟨cs, h1, h2⟩ := HSB; exact ⟨cs, ϕ h1, ϕ h2⟩
 clear HSB
 have c4 := HCB.out.cell 36 HCC.out.ten
 have c5 := HCB.out.cell 34 HCC.out.acc
 have kt := HT.out
 have hac := HAC.out
 rw [hac] at c5
 go_upto_region 5 with fail
 clear c4 c5 kt hac
 refine RL.start (RL.Aft V3) (by kernel_rfl) (RL.Aft.drew (RL.Aft.refl V3)) ?_
 refine RL.tu 0 ?_; go_frame
 refine RL.tu 1 ?_; go_frame
 refine RL.tu 2 ?_; go_frame
 refine' RL.tv 3 ?hk12 ?_
 case hk12 => (intro W hSW; have c1 := (qc_ hSW HCB.out).cell 35 HCC.out.tries; go_simp; try with_reducible rfl)
 try go_frame
 refine RL.tu 4 ?_; go_frame
 refine RL.tu 5 ?_; go_frame
 refine RL.tu 6 ?_; go_frame
 refine' RL.tv 7 ?hk16 ?_
 case hk16 => (intro W hSW; have c1 := (qc_ hSW HCB.out).cell 33 HCC.out.most; go_simp; try with_reducible rfl)
 try go_frame
 refine RL.tu 8 ?_; go_frame
 refine RL.tu 9 ?_; go_frame
 refine RL.done (by kernel_rfl) (fun V4 hlV4 hsV4 => ?_)
 have HM := ϕ (HM.out.below hsV4 HM.out.lt)
 have HR := ϕ (HR.out.below hsV4 HR.out.lt)
 have HCB := ϕ (HCB.out.below hsV4 HCB.out.lt)
 have HB := ϕ (HB.out.trans (Below.mono hsV4 HB.out.size))
 clear hlV4 hsV4
 have kt := HMT.out
 have kt2 := HMT2.out
 have c2 := HM.out.cell 2 (v := .slice (some ⟨gb, go, none⟩) 4 gc) rfl
 have c3 := HC0.out V4 HB.out
 go_upto_region 8 with fail
 clear kt kt2 c2 c3
 have c2 := HM.out.cell 2 (v := .slice (some ⟨gb, go, none⟩) 4 gc) rfl
 have c3 := HC3.out V4 HB.out
 go_upto_region 9 with (first
  | (go_at_call 53; refine (HRD.out _ HB.out).mono ?_; rintro e V5 ⟨Z, rfl, ⟨hZ, hZe⟩, hb1⟩; have HZE := ϕ hZe; clear hZe; have HZL := ϕ hZ; have HM := ϕ (HM.out.below hb1 HM.out.lt); have HR := ϕ (HR.out.below hb1 HR.out.lt); have HCB := ϕ (HCB.out.below hb1 HCB.out.lt); have HB := tm HB hb1; have HTS := ϕ (tryV_size X true HKL.out hZ); clear hb1 hZ )
  | ((with_reducible refine qd_ ?_); refine Rg.qf_ rfl 116 _ _ rfl (tryV X K1 true Z) _ 116 rfl rfl (by rw [HTS.out]; exact try_info) (by rw [HTS.out]; rfl) (tryV_one _ _ _ _) ?_; intro V6 hX hbX; have HTB := ϕ hX; have HWT := ϕ HB.out.size; have HM := ϕ (HM.out.below hbX HM.out.lt); have HRV := ϕ HR.out.lt; have HR := ϕ (HR.out.below hbX HR.out.lt); have HCB := ϕ (HCB.out.below hbX HCB.out.lt); have HB := tm HB hbX; clear hX hbX))
 clear c2 c3
 obtain ⟨tb, htb⟩ : ∃ n, V5.heap.size = n := exr
 have HTB := ϕ (show Rg.Blk V6 tb 116 (tryV X K1 true Z) from htb ▸ HTB.out)
 try rw [htb]
 clear htb HRV HWT
 have HKV := ϕ (show (bytesV K1).size = 32 by rw [qa_, HKL.out])
 refine RL.start (RL.Aft V6) (by kernel_rfl) (RL.Aft.drew (RL.Aft.refl V6)) ?_
 refine RL.tu 0 ?_; go_frame
 refine RL.tu 1 ?_; go_frame
 refine RL.tu 2 ?_; go_frame
 refine' RL.tv 3 ?hk74 ?_
 case hk74 => (intro W hSW; have c1 := (qc_ hSW HCB.out).cell 0 HCC.out.s; go_simp; try with_reducible rfl)
 try go_frame
 refine RL.tu 4 ?_; go_frame
 refine RL.tw 5 (v := .agg (bytesV K1)) rfl (fun W hSW => qo_ 22 _ rfl tb 1 rfl (bytesV K1) (fun j v hv => Rg.Blk.cell (qc_ hSW HTB.out) (1 + j) (tryV_k X true Z j v hv)) underlying22 rfl (by rw [HKV.out]; kernel_rfl)) ?_
 try go_frame
 refine' RL.stepCall (i := 6) 49 #[.pointer (some ⟨sb, 0, none⟩), .agg (bytesV K1)] rfl (by kernel_rfl) (by rfl) ?v6 ?c6
 case v6 => (intro W; go_simp; try with_reducible rfl)
 intro a6 hl6 hs6
 refine (HLK.out a6 (HB.out.trans (Below.mono hs6 HB.out.size))).mono ?_
 rintro e w6 ⟨rfl, hb6⟩
 refine ⟨_, rfl, RL.Aft.lat hs6 hb6, ?_⟩
 try go_frame
 refine RL.tu 7 ?_; go_frame
 refine RL.tu 8 ?_; go_frame
 refine RL.tu 9 ?_; go_frame
 refine RL.tu 10 ?_; go_frame
 refine RL.tu 11 ?_; go_frame
 refine RL.done (by kernel_rfl) (fun V7 hlV7 hsV7 => ?_)
 have HM := ϕ (HM.out.below hsV7 HM.out.lt)
 have HR := ϕ (HR.out.below hsV7 HR.out.lt)
 have HCB := ϕ (HCB.out.below hsV7 HCB.out.lt)
 have HB := ϕ (HB.out.trans (Below.mono hsV7 HB.out.size))
 clear hlV7 hsV7 hl6 hs6 hb6
 have c2 := HM.out.cell 2 (v := .slice (some ⟨gb, go, none⟩) 4 gc) rfl
 have c31 := HC1.out V7 HB.out
 have c32 := HC2.out V7 HB.out
 go_upto_region 11 with fail
 clear c2 c31 c32
 have HTR := ϕ HCC.out.tries
 have HTM := HTL.out
 go_wp2_with (first
  | (go_at_call 54; refine (fail_any _ b cs st.tries HCB.out HTR.out HTM).mono ?_; rintro e V8 ⟨g1, g2, g3, rfl, hg1, hg2, hg3, hb1, hb2, hb3, hbb, hu⟩; have HG1 := ϕ hg1; have HG2 := ϕ hg2; have HG3 := ϕ hg3; have HH1 := ϕ hb1; have HH2 := ϕ hb2; have HH3 := ϕ hb3; have HBB := ϕ hbb; have HU8 := ϕ hu; clear hg1 hg2 hg3 hb1 hb2 hb3 hbb hu; have HRV := ϕ HR.out.lt; have HBR := ϕ (show ¬ rb ∈ [b] from by have := HLB.out; have := HWM.out; have := HMR.out; simp; omega); have HR := ϕ (qk_ HU8.out HR.out HBR.out))
  | ((with_reducible refine qd_ ?_); refine Cv.qs_ rfl 39 _ _ rfl rb (failV g2 g3) askZ 39 rfl rfl HR.out (by kernel_rfl) (by kernel_rfl) (by unfold failV; simp [Value.oneCell']) ?_; intro Z9 hZ hgZ; have HR := ϕ hZ; have HGZ := ϕ hgZ; clear hZ hgZ))
 have e1 := HG1.out
 have e2 := HG2.out
 have e3 := HG3.out
 have e4 := HRV.out
 have e5 := HWM.out
 have e6 := HMR.out
 have e7 := HLB.out
 have hu := Sp.Upd.trans (Sp.Upd.trans (Sp.Upd.trans (Sp.Upd.refl w [b]) (Sp.Upd.of_below HB.out) (by simp)) HU8.out (fun q hq => .inl hq)) (Sp.Upd.of_grown1 HGZ.out) (fun q hq => .inr (by simp at hq; omega))
 refine bodyPost_ret (v := .tuple #[.agg (failV g2 g3), .nilIface])
  (Bl.jk_ results23 _ _ rb 39 _ (0, 0) _ rfl HR.out underlying39 rfl (by kernel_rfl)) rfl ?_
 exact ⟨_, rfl, MsgAt.fail (qb_ HH1.out HGZ.out (by omega)) (qb_ HH2.out HGZ.out (by omega)) (qb_ HH3.out HGZ.out (by omega)), HSW.out.upd hu (qb_ HBB.out HGZ.out (by omega)) HCC.out.setTries, hu⟩
theorem ha_reqT (w : World) (a : Nat → Addr) (hE : Ei.ErrsA w a) (hT : TabR w) (hG : Sg w) (P : Nat → Prop) (b sb bo bw T K N : Nat) (L : List St.Pr) (id : List UInt8) (most : Nat) (st : Sv) (h : IsSv w P b sb bo bw T K N L id most st) (kind : Int) (us : List Nat) (ss : List ByteArray) (nn : List (List ByteArray)) (bs : List Bool) (vu vs vn vb : Value) (hm : IsMsg w ⟨kind, us, ss, nn, bs⟩ vu vs vn vb) (hf : Fit ⟨kind, us, ss, nn, bs⟩) (hk : kind = 50) (hn : checkC ⟨kind, us, ss, nn, bs⟩ = 0) (user cn mt rest : ByteArray) (hss : ss = [user, cn, mt, rest]) (ht : st.ten = []) (hac : st.acc = true) (hmt : st.tries < most) (hml : most ≤ 1000) (hok : RdOk rest) (hBr : rdB rest ≠ 0) (t : List UInt8) (hwh : St.whoOf L (rdK rest) = some t) (hus : t = user.data.toList) (hcn : cn = connB) (hme : mt = methB) (hve : verL id (rdK rest) user.data.toList (rdZ rest) = true) (hul : user.size ≤ 1000) : Calls prog 23 #[.pointer (some ⟨b, 0, none⟩), .agg (mC kind vu vs vn vb)] w (Did w P b sb bo bw T K N L id most a (0, sucM, { st with ten := user.data.toList, key := rdK rest })) := by
 have HSV := ϕ h
 have HSW := ϕ h
 have HLB := ϕ (show b < w.heap.size by obtain ⟨cs, h1, _⟩ := h.blk; exact h1.lt)
 have hc0 : checkC ⟨kind, us, ss, nn, bs⟩ = 0 := hn
 have HCK := ϕ (show ∀ W, Below w.heap.size w W → Calls prog 30 #[.agg (mC kind vu vs vn vb)] W fun e w' => e = .returned (.nilIface) ∧ Below W.heap.size W w' from fun W hW => by
  have := Check_good W a (ErrsM.ofA (hE.below hW)) (hT.below hW) ⟨kind, us, ss, nn, bs⟩ vu vs vn vb (hm.below hW) hf (counted_ok hc0)
  rw [hc0, Ei.evA_zero] at this
  exact this)
 subst hk
 have HIS := ϕ (fun W (hW : Below w.heap.size w W) => h.is.below hW)
 have HSG := ϕ (fun W (hW : Below w.heap.size w W) => hG.below hW)
 obtain ⟨gb, go, gc, hvs, hgc, hcl⟩ := cells_of (xs := [user, cn, mt, rest]) (hss ▸ hm.s) (Nat.zero_lt_succ _)
 have hzu : user.size ≤ 1000000 := hf.s user (by rw [hss]; simp)
 have hzr : rest.size ≤ 1000000 := hf.s rest (by rw [hss]; simp)
 subst hss
 subst hvs
 have HC0 := ϕ (show ∀ W, Below w.heap.size w W → W.cell? ⟨gb, go, none⟩ = some (.string user) from fun W hW => hcl W hW 0 user rfl)
 have HC1 := ϕ (show ∀ W, Below w.heap.size w W → W.cell? ⟨gb, go + 1, none⟩ = some (.string cn) from fun W hW => hcl W hW 1 cn rfl)
 have HC2 := ϕ (show ∀ W, Below w.heap.size w W → W.cell? ⟨gb, go + 2, none⟩ = some (.string mt) from fun W hW => hcl W hW 2 mt rfl)
 have HC3 := ϕ (show ∀ W, Below w.heap.size w W → W.cell? ⟨gb, go + 3, none⟩ = some (.string rest) from fun W hW => hcl W hW 3 rest rfl)
 have hgc : (4 : Int) ≤ gc := by exact_mod_cast hgc
 have HT := ϕ (show (mkS st.ten).toList.isEmpty = true by rw [ten_nil]; simpa using ht)
 clear ht
 have HAC := ϕ hac
 clear hac
 have HMT := ϕ (show decide ((most : Int) ≤ (st.tries : Int)) = false by simp; omega)
 have HMT2 := ϕ (show ¬ (most : Int) ≤ (st.tries : Int) by omega)
 clear hmt hml
 obtain ⟨X, hX⟩ : ∃ X, rdX rest = X := exr
 obtain ⟨K1, hK1⟩ : ∃ K, rdK rest = K := exr
 have HKL := ϕ (show K1.length = 32 from by
  have := opR_size (rdX rest) 32 10 (by decide) hok.key
  rw [this.2] at this
  rw [← hK1]
  show (opX (rdX rest)).data.toList.length = 32
  rw [qu_]; exact this.1)
 have HRD := ϕ (show ∀ W, Below w.heap.size w W → Calls prog 53 #[.string rest] W fun e w' => ∃ Z, e = .returned (.tuple #[.agg (tryV X K1 true Z), .nilIface]) ∧ (Z.length = 64 ∧ Z = rdZ rest) ∧ Below W.heap.size W w' from fun W hW => (rd_T W a (hE.below hW) rest hzr (by simpa using hBr) hok.done hok.key hok.word (hok.sig hBr)).mono fun e w' ⟨X0, K0, B0, Z, ev, h1, h2, h3, h4, h5⟩ => by
  rcases h5 with ⟨_, e1, e2, e3, e4, e5⟩ | ⟨h6, _⟩
  · subst e1 e2 e3 e4
    rw [hX, hK1, show decide (rdB rest ≠ 0) = true by simpa using hBr] at h1
    exact ⟨Z, h1, ⟨h3, e5 hBr⟩, h4⟩
  · exact absurd hok h6)
 have HLK := ϕ (show ∀ W, Below w.heap.size w W → Calls prog 49 #[.pointer (some ⟨sb, 0, none⟩), .agg (bytesV K1)] W fun e w' => e = .returned (.tuple #[.string (mkS t), .nilIface]) ∧ Below W.heap.size W w' from fun W hW => St.Lookup_some W sb bo bw T K N L (HIS.out W hW) K1 HKL.out t (by rw [← hK1]; exact hwh))
 rw [show mkS t = user by rw [hus]; rfl] at HLK
 subst hcn
 subst hme
 have hil : id.length = 32 := by obtain ⟨cs, _, h2⟩ := h.blk; exact h2.il
 obtain ⟨m, hm0⟩ : ∃ m, sgdL id user.data.toList K1 = m := exr
 have HSD := ϕ (show ∀ W, Calls prog 14 #[.agg (bytesV id), .string user, .agg (bytesV K1)] W fun e w' => e = .returned (.string (mkS m)) ∧ Below W.heap.size W w' from fun W => hm0 ▸ Signed_any W id K1 user hil HKL.out hul)
 have HVF0 := ϕ (show ∀ Z : List UInt8, Z.length = 64 → Z = rdZ rest → ∀ W, Sg W → Calls prog 55 #[.agg (bytesV K1), .string (mkS m), .agg (bytesV Z)] W fun e w' => e = .returned (.bool true) ∧ Below W.heap.size W w' from fun Z hZ hZe W hW => by
  have := Verify_any W K1 m (Z.take 32) (Z.drop 32) HKL.out (by rw [← hm0, sgdL_length hil HKL.out, qu_]; omega) (by rw [List.length_take, hZ]; rfl) (by rw [List.length_drop, hZ]) hW.t hW.o
  rw [List.take_append_drop] at this
  rw [show Ed.ver K1 m (Z.take 32) (Z.drop 32) = true by rw [← hm0, hZe, ← hK1]; exact hve] at this
  exact this)
 have HKE := ϕ hK1
 clear hus hm0 hil hve hul hX hK1 hok hBr hwh
 clear h hE hT hm hf hc0 hn hcl hG hzu hzr
 go_enter func23, ntmps23
 go_upto_region 1 with ((with_reducible refine qd_ ?_); refine Rg.qh_ rfl 39 _ rfl (mC 50 vu (.slice (some ⟨gb, go, none⟩) 4 gc) vn vb) rfl ?_; intro V1 hK hbV hnV; have HM := ϕ hK; have HB := ϕ hbV; clear hK hbV hnV)
 obtain ⟨mb, hmb⟩ : ∃ n, w.heap.size = n := exr
 obtain ⟨rb, hrb⟩ : ∃ n, V1.heap.size = n := exr
 obtain ⟨V2, hV2⟩ : ∃ Y, V1.alloc (.cells askZ 39) = Y := exr
 have al : Below V1.heap.size V1 V2 := by rw [← hV2]; exact (Below.refl _ _).alloc (Nat.le_refl _) _
 have HMR := ϕ (show mb < rb from by rw [← hmb, ← hrb]; exact HM.out.lt)
 have HWM := ϕ (show w.heap.size ≤ mb from Nat.le_of_eq hmb)
 have HR := ϕ (show Rg.Blk V2 rb 39 askZ from by rw [← hrb, ← hV2]; exact Rg.Blk.new V1 _ _)
 have HM := ϕ (show Rg.Blk V2 mb 39 (mC 50 vu (.slice (some ⟨gb, go, none⟩) 4 gc) vn vb) from by rw [← hmb]; exact HM.out.below al HM.out.lt)
 have HB := tm HB al
 have HS := ϕ (HSV.out.below HB.out)
 try rw [show (#[.int .i64 0, .slice none 0 0, .slice none 0 0, .slice none 0 0, .slice none 0 0] : Array Value) = askZ from rfl]
 try rw [hmb]
 try rw [hV2]
 try rw [hrb]
 clear hmb hrb hV2 al HSV
 have c0 := HM.out.cell 0 (v := .int .i64 50) rfl
 go_upto_region 3 with (first
  | ((with_reducible refine qd_ ?_); refine load_blk_g (by rfl) 39 _ rfl mb (mC 50 vu (.slice (some ⟨gb, go, none⟩) 4 gc) vn vb) 39 rfl HM.out underlying39 rfl (by kernel_rfl) ?_; skip)
  | (go_at_call 30; refine (HCK.out _ HB.out).mono ?_; rintro e V3 ⟨rfl, hb1⟩; have HM := ϕ (HM.out.below hb1 HM.out.lt); have HR := ϕ (HR.out.below hb1 HR.out.lt); have HS := ϕ (HS.out.below hb1); have HB := tm HB hb1; clear hb1))
 clear c0
 have HSB := HS.out.blk
 obtain ⟨cs, HCB, HCC⟩ : ∃ cs, Hid (Rg.Blk V3 b 114 cs) ∧ Hid (SvC cs sb id most st) := by obtain ⟨cs, h1, h2⟩ := HSB; exact ⟨cs, ϕ h1, ϕ h2⟩
 clear HSB
 have c4 := HCB.out.cell 36 HCC.out.ten
 have c5 := HCB.out.cell 34 HCC.out.acc
 have kt := HT.out
 have hac := HAC.out
 rw [hac] at c5
 go_upto_region 5 with fail
 clear c4 c5 kt hac
 refine RL.start (RL.Aft V3) (by kernel_rfl) (RL.Aft.drew (RL.Aft.refl V3)) ?_
 refine RL.tu 0 ?_; go_frame
 refine RL.tu 1 ?_; go_frame
 refine RL.tu 2 ?_; go_frame
 refine' RL.tv 3 ?hk12 ?_
 case hk12 => (intro W hSW; have c1 := (qc_ hSW HCB.out).cell 35 HCC.out.tries; go_simp; try with_reducible rfl)
 try go_frame
 refine RL.tu 4 ?_; go_frame
 refine RL.tu 5 ?_; go_frame
 refine RL.tu 6 ?_; go_frame
 refine' RL.tv 7 ?hk16 ?_
 case hk16 => (intro W hSW; have c1 := (qc_ hSW HCB.out).cell 33 HCC.out.most; go_simp; try with_reducible rfl)
 try go_frame
 refine RL.tu 8 ?_; go_frame
 refine RL.tu 9 ?_; go_frame
 refine RL.done (by kernel_rfl) (fun V4 hlV4 hsV4 => ?_)
 have HM := ϕ (HM.out.below hsV4 HM.out.lt)
 have HR := ϕ (HR.out.below hsV4 HR.out.lt)
 have HCB := ϕ (HCB.out.below hsV4 HCB.out.lt)
 have HB := ϕ (HB.out.trans (Below.mono hsV4 HB.out.size))
 clear hlV4 hsV4
 have kt := HMT.out
 have kt2 := HMT2.out
 have c2 := HM.out.cell 2 (v := .slice (some ⟨gb, go, none⟩) 4 gc) rfl
 have c3 := HC0.out V4 HB.out
 go_upto_region 8 with fail
 clear kt kt2 c2 c3
 have c2 := HM.out.cell 2 (v := .slice (some ⟨gb, go, none⟩) 4 gc) rfl
 have c3 := HC3.out V4 HB.out
 go_upto_region 9 with (first
  | (go_at_call 53; refine (HRD.out _ HB.out).mono ?_; rintro e V5 ⟨Z, rfl, ⟨hZ, hZe⟩, hb1⟩; have HZE := ϕ hZe; clear hZe; have HZL := ϕ hZ; have HM := ϕ (HM.out.below hb1 HM.out.lt); have HR := ϕ (HR.out.below hb1 HR.out.lt); have HCB := ϕ (HCB.out.below hb1 HCB.out.lt); have HB := tm HB hb1; have HTS := ϕ (tryV_size X true HKL.out hZ); clear hb1 hZ )
  | ((with_reducible refine qd_ ?_); refine Rg.qf_ rfl 116 _ _ rfl (tryV X K1 true Z) _ 116 rfl rfl (by rw [HTS.out]; exact try_info) (by rw [HTS.out]; rfl) (tryV_one _ _ _ _) ?_; intro V6 hX hbX; have HTB := ϕ hX; have HWT := ϕ HB.out.size; have HM := ϕ (HM.out.below hbX HM.out.lt); have HRV := ϕ HR.out.lt; have HR := ϕ (HR.out.below hbX HR.out.lt); have HCB := ϕ (HCB.out.below hbX HCB.out.lt); have HB := tm HB hbX; clear hX hbX))
 clear c2 c3
 obtain ⟨tb, htb⟩ : ∃ n, V5.heap.size = n := exr
 have HTB := ϕ (show Rg.Blk V6 tb 116 (tryV X K1 true Z) from htb ▸ HTB.out)
 have HRT := ϕ (show rb < tb from htb ▸ HRV.out)
 have HBT := ϕ (show ¬ b = tb from fun e => by have := HLB.out; have := HWM.out; have := HMR.out; have := HRT.out; omega)
 try rw [htb]
 clear htb HRV HWT
 have HKV := ϕ (show (bytesV K1).size = 32 by rw [qa_, HKL.out])
 refine RL.start (RL.Aft V6) (by kernel_rfl) (RL.Aft.drew (RL.Aft.refl V6)) ?_
 refine RL.tu 0 ?_; go_frame
 refine RL.tu 1 ?_; go_frame
 refine RL.tu 2 ?_; go_frame
 refine' RL.tv 3 ?hk144 ?_
 case hk144 => (intro W hSW; have c1 := (qc_ hSW HCB.out).cell 0 HCC.out.s; go_simp; try with_reducible rfl)
 try go_frame
 refine RL.tu 4 ?_; go_frame
 refine RL.tw 5 (v := .agg (bytesV K1)) rfl (fun W hSW => qo_ 22 _ rfl tb 1 rfl (bytesV K1) (fun j v hv => Rg.Blk.cell (qc_ hSW HTB.out) (1 + j) (tryV_k X true Z j v hv)) underlying22 rfl (by rw [HKV.out]; kernel_rfl)) ?_
 try go_frame
 refine' RL.stepCall (i := 6) 49 #[.pointer (some ⟨sb, 0, none⟩), .agg (bytesV K1)] rfl (by kernel_rfl) (by rfl) ?v6 ?c6
 case v6 => (intro W; go_simp; try with_reducible rfl)
 intro a6 hl6 hs6
 refine (HLK.out a6 (HB.out.trans (Below.mono hs6 HB.out.size))).mono ?_
 rintro e w6 ⟨rfl, hb6⟩
 refine ⟨_, rfl, RL.Aft.lat hs6 hb6, ?_⟩
 try go_frame
 refine RL.tu 7 ?_; go_frame
 refine RL.tu 8 ?_; go_frame
 refine RL.tu 9 ?_; go_frame
 refine RL.tu 10 ?_; go_frame
 refine RL.tu 11 ?_; go_frame
 refine RL.done (by kernel_rfl) (fun V7 hlV7 hsV7 => ?_)
 have HM := ϕ (HM.out.below hsV7 HM.out.lt)
 have HR := ϕ (HR.out.below hsV7 HR.out.lt)
 have HCB := ϕ (HCB.out.below hsV7 HCB.out.lt)
 have HTB := ϕ (HTB.out.below hsV7 HTB.out.lt)
 have HB := ϕ (HB.out.trans (Below.mono hsV7 HB.out.size))
 clear hlV7 hsV7 hl6 hs6 hb6
 have c2 := HM.out.cell 2 (v := .slice (some ⟨gb, go, none⟩) 4 gc) rfl
 have c31 := HC1.out V7 HB.out
 have c32 := HC2.out V7 HB.out
 have k1 := conn_list
 have k2 := meth_list
 go_upto_region 12 with fail
 clear k1 k2 c2 c31 c32
 have cb := HTB.out.cell 33 (tryV_b X true Z HKL.out)
 go_upto_region 14 with fail
 clear cb
 have HIV := ϕ (show (bytesV id).size = 32 by rw [qa_, HCC.out.il])
 have HZV := ϕ (show (bytesV Z).size = 64 by rw [qa_, HZL.out])
 have HVF := ϕ (HVF0.out Z HZL.out HZE.out)
 refine RL.start (RL.Aft V7) (by kernel_rfl) (RL.Aft.drew (RL.Aft.refl V7)) ?_
 refine RL.tu 0 ?_; go_frame
 refine RL.tw 1 (v := .agg (bytesV K1)) rfl (fun W hSW => qo_ 22 _ rfl tb 1 rfl (bytesV K1) (fun j v hv => Rg.Blk.cell (qc_ hSW HTB.out) (1 + j) (tryV_k X true Z j v hv)) underlying22 rfl (by rw [HKV.out]; kernel_rfl)) ?_
 try go_frame
 refine RL.tu 2 ?_; go_frame
 refine RL.tu 3 ?_; go_frame
 refine RL.tu 4 ?_; go_frame
 refine RL.tw 5 (v := .agg (bytesV id)) rfl (fun W hSW => qo_ 22 _ rfl b 1 rfl (bytesV id) (fun j v hv => Rg.Blk.cell (qc_ hSW HCB.out) (1 + j) (HCC.out.ids j v hv)) underlying22 rfl (by rw [HIV.out]; kernel_rfl)) ?_
 try go_frame
 refine RL.tu 6 ?_; go_frame
 refine RL.tu 7 ?_; go_frame
 refine RL.tw 8 (v := .agg (bytesV K1)) rfl (fun W hSW => qo_ 22 _ rfl tb 1 rfl (bytesV K1) (fun j v hv => Rg.Blk.cell (qc_ hSW HTB.out) (1 + j) (tryV_k X true Z j v hv)) underlying22 rfl (by rw [HKV.out]; kernel_rfl)) ?_
 try go_frame
 refine' RL.td 9 (v := (.string (mkS m))) 14 #[.agg (bytesV id), .string user, .agg (bytesV K1)] ?hc157 ?_
 case hc157 => (intro W hSW; exact (HSD.out W).mono (fun e w9 h9 => ⟨h9.1, h9.2, RL.Aft.lat hSW h9.2⟩))
 try go_frame
 refine RL.tu 10 ?_; go_frame
 refine RL.tw 11 (v := .agg (bytesV Z)) rfl (fun W hSW => qo_ 29 _ rfl tb 34 rfl (bytesV Z) (fun j v hv => Rg.Blk.cell (qc_ hSW HTB.out) (34 + j) (tryV_z X true HKL.out j v hv)) underlying29 rfl (by rw [HZV.out]; kernel_rfl)) ?_
 try go_frame
 refine' RL.td 12 (v := (.bool true)) 55 #[.agg (bytesV K1), .string (mkS m), .agg (bytesV Z)] ?hc159 ?_
 case hc159 => (intro W hSW; exact (HVF.out W (HSG.out W (HB.out.trans (Below.mono hSW HB.out.size)))).mono (fun e w9 h9 => ⟨h9.1, h9.2, RL.Aft.lat hSW h9.2⟩))
 try go_frame
 refine RL.tu 13 ?_; go_frame
 refine RL.done (by kernel_rfl) (fun V8 hlV8 hsV8 => ?_)
 have HR := ϕ (HR.out.below hsV8 HR.out.lt)
 have HCB := ϕ (HCB.out.below hsV8 HCB.out.lt)
 have HTB := ϕ (HTB.out.below hsV8 HTB.out.lt)
 have HB := ϕ (HB.out.trans (Below.mono hsV8 HB.out.size))
 clear hlV8 hsV8
 go_upto_region 16 with fail
 refine RL.start (fun W => Sp.Upd V8 W [b]) (by kernel_rfl) (Sp.Upd.trans (Sp.Upd.refl _ _) (Sp.Upd.of_below (Below.drew (Below.refl _ _))) (by simp)) ?_
 refine RL.tu 0 ?_; go_frame
 refine RL.tu 1 ?_; go_frame
 refine RL.tu 2 ?_; go_frame
 refine RL.tu 3 ?_; go_frame
 refine RL.tw 4 (v := .agg (bytesV K1)) rfl (fun W hSW => qo_ 22 _ rfl tb 1 rfl (bytesV K1) (fun j v hv => Rg.Blk.cell (qk_ hSW HTB.out (by have := HBT.out; simp; exact fun e => this e.symm)) (1 + j) (tryV_k X true Z j v hv)) underlying22 rfl (by rw [HKV.out]; kernel_rfl)) ?_
 try go_frame
 refine RL.tu 5 ?_; go_frame
 refine RL.tu 6 ?_; go_frame
 refine RL.sk 7 (fun va hlva hsva K0 hK => ?_)
 have hO := (HCB.out.below (Below.drew (Below.refl _ _)) HCB.out.lt).below hlva (by have := HCB.out.lt; simpa using this)
 refine store_one_op 9 _ _ rfl b 36 (.string user) cs 114 rfl rfl rfl hO (by kernel_rfl) (by rw [HCC.out.size]; decide) rfl ?_
 intro Y1 hY1 hgY1
 refine hK.out _ _ (Sp.Upd.trans hsva (Sp.Upd.of_grown1 hgY1) (fun q hq => .inl hq)) ?_
 clear hK
 try go_frame
 refine RL.tu 8 ?_; go_frame
 refine RL.tu 9 ?_; go_frame
 refine RL.sk 10 (fun vc hlvc hsvc K0 hK => ?_)
 have hO2 := hY1.below hlvc hY1.lt
 refine store_part_op 22 _ _ rfl b 37 (bytesV K1) (cs.setIfInBounds 36 (.string user)) (inCs cs user.data.toList K1) 114 rfl rfl hO2 (by rw [HKV.out]; kernel_rfl) (by rw [HKV.out, Array.size_setIfInBounds, HCC.out.size]; decide) (qn_ _) (by unfold inCs; rw [show mkS user.data.toList = user from rfl]) ?_
 intro Y2 hY2 hgY2
 refine hK.out _ _ (Sp.Upd.trans hsvc (Sp.Upd.of_grown1 hgY2) (fun q hq => .inl hq)) ?_
 clear hK
 try go_frame
 refine RL.done (by kernel_rfl) (fun V9 hlV9 hsV9 => ?_)
 have HBN := ϕ (show Rg.Blk V9 b 114 (inCs cs user.data.toList K1) from Rg.Blk.below hY2 hlV9 hY2.lt)
 have HBR := ϕ (show ¬ rb = b from by have := HLB.out; have := HWM.out; have := HMR.out; omega)
 have HR := ϕ (qk_ hsV9 HR.out (by simp; exact HBR.out))
 have HU9 := ϕ (show Sp.Upd w V9 [b] from Sp.Upd.trans (Sp.Upd.trans (Sp.Upd.refl w [b]) (Sp.Upd.of_below HB.out) (by simp)) hsV9 (fun q hq => .inl hq))
 have HRV := ϕ HR.out.lt
 clear hO hO2 hY1 hgY1 hY2 hgY2 hlva hsva hlvc hsvc hlV9 hsV9
 go_wp2_with (refine Cv.qs_ rfl 39 _ _ rfl rb (mC 52 (.slice none 0 0) (.slice none 0 0) (.slice none 0 0) (.slice none 0 0)) askZ 39 rfl rfl HR.out (by kernel_rfl) (by kernel_rfl) (by unfold mC; simp [Value.oneCell']) ?_; intro Z9 hZ hgZ; have HR := ϕ hZ; have HGZ := ϕ hgZ; clear hZ hgZ)
 have e5 := HWM.out
 have e6 := HMR.out
 have e7 := HLB.out
 have hu := Sp.Upd.trans HU9.out (Sp.Upd.of_grown1 HGZ.out) (fun q hq => .inr (by simp at hq; omega))
 refine bodyPost_ret (v := .tuple #[.agg (mC 52 (.slice none 0 0) (.slice none 0 0) (.slice none 0 0) (.slice none 0 0)), .nilIface])
  (Bl.jk_ results23 _ _ rb 39 _ (0, 0) _ rfl HR.out underlying39 rfl (by kernel_rfl)) rfl ?_
 exact ⟨_, rfl, MsgAt.kind, HSW.out.upd hu (qb_ HBN.out HGZ.out HBR.out) (by show SvC _ _ _ _ { st with ten := user.data.toList, key := rdK rest }; rw [HKE.out]; exact HCC.out.setIn user.data.toList K1 HKL.out), hu⟩
end Au
namespace St
open Go.RowKit Go.Proofs.YtciibogkfbicfaaGreatDoor.Ow Go.Proofs.YtciibogkfbicfaaGreatDoor.Mp Go.Maps
theorem fold_set : ∀ (l : List Value) (k : Nat) (arr : Array Value), k + l.length ≤ arr.size → ∀ j, ((l.zipIdx k).foldl (fun (cs : Array Value) (x : Value × Nat) => cs.setIfInBounds x.2 x.1) arr)[j]? = if k ≤ j ∧ j < k + l.length then l[j - k]? else arr[j]?
 | [], k, arr, _, j => by
  rw [if_neg (fun e => by have := e.2; simp at this; omega)]; rfl
 | x :: l, k, arr, h, j => by
  rw [List.zipIdx_cons, List.foldl_cons, fold_set l (k + 1) _ (by rw [Array.size_setIfInBounds]; simp at h; omega) j]
  by_cases h1 : k = j
  · subst h1
    rw [if_neg (by omega), if_pos (by simp), Array.getElem?_setIfInBounds_self_of_lt (by simp at h; omega)]
    simp
  · rw [Array.getElem?_setIfInBounds_ne h1]
    by_cases h2 : k + 1 ≤ j ∧ j < k + 1 + l.length
    · rw [if_pos h2, if_pos (by simp; omega), show j - k = (j - (k + 1)) + 1 by omega, List.getElem?_cons_succ]
    · rw [if_neg h2, if_neg (by simp; omega)]
theorem fold_cells (cs z : Array Value) (h : z.size = cs.size) (n : Nat) (hn : n = cs.size) : Array.foldl (fun (cs : Array Value) (x : Value × Nat) => cs.setIfInBounds x.snd x.fst) z cs.zipIdx 0 n = cs := by
 subst hn
 rw [show cs.size = cs.zipIdx.size by simp, ← Array.foldl_toList, Array.toList_zipIdx]
 apply Array.ext_getElem?
 intro j
 rw [fold_set cs.toList 0 z (by simp; omega) j]
 by_cases hj : j < cs.size
 · rw [if_pos (by simp; omega)]; simp
 · rw [if_neg (by simp; omega), Array.getElem?_eq_none (by omega), Array.getElem?_eq_none (by omega)]
theorem keysOf_snoc (L : List Pr) (t k x : List UInt8) : keysOf (L ++ [(t, k)]) x = if t = x then keysOf L x ++ [k] else keysOf L x := by
 unfold keysOf
 rw [List.filter_append, List.map_append]
 by_cases h : t = x
 · rw [if_pos h]; simp [h]
 · rw [if_neg h]; simp [h]
theorem whoOf_snoc (L : List Pr) (t k x : List UInt8) (hk : whoOf L k = none) : whoOf (L ++ [(t, k)]) x = if x = k then some t else whoOf L x := by
 unfold whoOf at *
 rw [List.find?_append]
 by_cases h : x = k
 · subst h
   rw [if_pos rfl]
   rw [Option.map_eq_none_iff] at hk
   rw [hk]; simp
 · rw [if_neg h]
   have : ¬ k = x := fun e => h e.symm
   simp [this]
theorem whoOf_none {L : List Pr} {k : List UInt8} : whoOf L k = none ↔ k ∉ L.map (·.2) := by
 unfold whoOf
 rw [Option.map_eq_none_iff, List.find?_eq_none]
 constructor
 · intro h hm
   obtain ⟨p, hp, e⟩ := List.mem_map.1 hm
   exact h p hp (decide_eq_true e)
 · intro h p hp e
   exact h (List.mem_map.2 ⟨p, hp, of_decide_eq_true e⟩)
theorem Good.snoc {L : List Pr} (h : Good L) {t k : List UInt8} (hk : k.length = 32) (hv : validB t = true) (hw : whoOf L k = none) : Good (L ++ [(t, k)]) := by
 refine ⟨fun p hp => ?_, fun p hp => ?_, ?_⟩
 · rcases List.mem_append.1 hp with h1 | h1
   · exact h.key p h1
   · rw [List.mem_singleton.1 h1]; exact hk
 · rcases List.mem_append.1 hp with h1 | h1
   · exact h.val p h1
   · rw [List.mem_singleton.1 h1]; exact hv
 · rw [List.map_append]
   refine List.nodup_append.2 ⟨h.nd, by simp, fun a ha b hb => ?_⟩
   simp at hb
   subst hb
   rintro rfl
   exact whoOf_none.1 hw ha
theorem za_ (L : List Pr) : (tens L).Nodup := nodup_ddup _
theorem tens_snoc (L : List Pr) (t k : List UInt8) : (tens (L ++ [(t, k)])).length = if keysOf L t = [] then (tens L).length + 1 else (tens L).length := by
 have hm : ∀ x, x ∈ tens (L ++ [(t, k)]) ↔ x = t ∨ x ∈ tens L := fun x => by
  rw [mem_tens, mem_tens, keysOf_snoc]
  by_cases h : t = x
  · subst h; simp
  · rw [if_neg h]
    constructor
    · exact .inr
    · rintro (e | e)
      · exact absurd e.symm h
      · exact e
 by_cases h : keysOf L t = []
 · rw [if_pos h]
   have hp : (tens (L ++ [(t, k)])).Perm (t :: tens L) := (List.perm_ext_iff_of_nodup (za_ _) (List.nodup_cons.2 ⟨fun e => mem_tens.1 e h, za_ _⟩)).2 fun x => by rw [hm, List.mem_cons]
   exact hp.length_eq
 · rw [if_neg h]
   have hp : (tens (L ++ [(t, k)])).Perm (tens L) := (List.perm_ext_iff_of_nodup (za_ _) (za_ _)).2 fun x => by
    rw [hm]
    exact ⟨fun e => e.elim (fun e => by rw [e]; exact mem_tens.2 h) id, .inr⟩
   exact hp.length_eq
def OfSpec (w : World) (L : List Pr) (f : Lit → Option Value) : Prop := ∀ x, (keysOf L x = [] ∧ f (.string x) = none) ∨ (keysOf L x ≠ [] ∧ ∃ v, f (.string x) = some v ∧ KS w v (keysOf L x))
theorem OfSpec.below {w w' : World} {L : List Pr} {f : Lit → Option Value} (h : OfSpec w L f) (hb : Below w.heap.size w w') : OfSpec w' L f := fun x => by
 rcases h x with h | ⟨h4, v, h5, h6⟩
 · exact .inl h
 · exact .inr ⟨h4, v, h5, h6.below hb⟩
theorem OfSpec.map {w w' : World} {L : List Pr} {f : Lit → Option Value} {b : Nat} (h : OfSpec w L f) (hg : w.grownBy w' (some b)) (hm : ∃ es clock, w.heap[b]? = some (.map es clock)) : OfSpec w' L f := fun x => by
 rcases h x with h | ⟨h4, v, h5, h6⟩
 · exact .inl h
 · exact .inr ⟨h4, v, h5, h6.map hg hm⟩
theorem isMap {P : Program} {w : World} {k b n s : Nat} {f : Lit → Option Value} (h : RMap P w k b n f s) : ∃ es clock, w.heap[b]? = some (.map es clock) := by
 obtain ⟨D, ⟨es, clock, hb, _⟩, _⟩ := h
 exact ⟨es, clock, hb⟩
theorem of_next {w Y : World} {bo N : Nat} {L : List Pr} {f : Lit → Option Value} {t k : List UInt8} {v : Value} (hf : RMap prog w 9 bo N f (tens L).length) (hfx : OfSpec w L f) (hY : RMap prog Y 9 bo (N + 1) (upd f (.string t) (some v)) (if (f (.string t)).isSome then (tens L).length else (tens L).length + 1)) (hg : w.grownBy Y (some bo)) (hk : KS w v (keysOf L t ++ [k])) :
 ∃ f', RMap prog Y 9 bo (N + 1) f' (tens (L ++ [(t, k)])).length ∧ OfSpec Y (L ++ [(t, k)]) f' := by
 have hs : (if (f (.string t)).isSome then (tens L).length else (tens L).length + 1) = (tens (L ++ [(t, k)])).length := by
  rw [tens_snoc]
  rcases hfx t with ⟨h1, h2⟩ | ⟨h1, v', h2, _⟩
  · rw [h2, if_pos h1]; rfl
  · rw [h2, if_neg h1]; rfl
 rw [hs] at hY
 refine ⟨_, hY, fun x => ?_⟩
 rw [keysOf_snoc]
 by_cases hx : t = x
 · subst hx
   rw [if_pos rfl, upd_same]
   exact .inr ⟨by simp, v, rfl, hk.map hg (isMap hf)⟩
 · rw [if_neg hx, jx_ f _ (fun e => hx (by injection e with e; exact e.symm))]
   exact hfx.map hg (isMap hf) x
end St
end Go.Proofs.YtciibogkfbicfaaGreatDoor
