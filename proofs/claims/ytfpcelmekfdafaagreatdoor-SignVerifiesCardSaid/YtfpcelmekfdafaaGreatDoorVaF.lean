/- SgC, SgD, SgE, FeL, EdT, SgL, SgM, RfN, SgN, OpenArr, SgO: what the claims need of them. -/
import Derived.Lib.SlBuf
import Derived.Laws.CopyRow
import Derived.Test.YtfpcelmekfdafaaGreatDoorVaE
set_option linter.unusedVariables false
set_option linter.unusedSimpArgs false
set_option maxRecDepth 20000
set_option maxHeartbeats 16000000
namespace Go.Proofs.YtfpcelmekfdafaaGreatDoor.RL
open Go.RowKit
theorem wp_enter {P : Program} {o : Oper} {a : Act} {w : World} {K : Act → World → Prop} {Q : Exit → Act → World → Prop} {F : FuncId} {args : Array Value} (hv : (execOp a.eval o).run P w = .ok (.enter F args) w) (h : Calls P F args w fun e w' => ∃ v, e = .returned v ∧ K (a.put o.dst v) w') : o.wp P a w K Q := by
 unfold Oper.wp
 rw [hv]
 refine Calls.mono h ?_
 rintro e w' ⟨v, rfl, hk⟩
 exact hk
theorem wp_made {P : Program} {o : Oper} {a : Act} {w w' : World} {K : Act → World → Prop} {Q : Exit → Act → World → Prop} {v : Value} (hv : (execOp a.eval o).run P w = .ok (.value v) w') (h : K (a.put o.dst v) w') : o.wp P a w K Q := by
 unfold Oper.wp
 rw [hv]
 exact h
theorem rest_of {T : Nat → Nat → World → Prop} {G : Prop} (F : Nat → Nat → World → Prop) (h1 : (∀ b c W, F b c W → T b c W) → G) (h2 : ∀ b c W, F b c W → T b c W) : G := h1 h2
theorem norm {P : Program} {md : Region.Mode} {ops : Array Oper} {Q : Exit → Act → World → Prop} {S : World → Prop} {fuel : Nat} {listed : Array Bool} {a : Act} {w : World} (l' : Array Bool) (h : listed = l') (hh : H P md ops Q S w fuel l' a) : H P md ops Q S w fuel listed a := h ▸ hh
end Go.Proofs.YtfpcelmekfdafaaGreatDoor.RL
namespace Go.Proofs.YtfpcelmekfdafaaGreatDoor.Kx
open Go.RowKit Go.Proofs.YtfpcelmekfdafaaGreatDoor.Cl Go.Proofs.YtfpcelmekfdafaaGreatDoor.Ed Go.Proofs.YtfpcelmekfdafaaGreatDoor.Rf
theorem Point_any (w : World) (l : List UInt8) (hl : l.length = 32) : Calls Tryz.prog 10 #[.agg (Cv.bytesV l)] w fun e w' => e = .returned (.bool (dec l).isSome) ∧ Below w.heap.size w w' := by
 obtain ⟨cd, ct, c1, c2, c3, c4, ecd, ect, hrq, cbeg⟩ := begin_e
 have CBE := ϕ cbeg
 obtain ⟨B0, hB0⟩ : ∃ R : E4, (⟨c1, c2, c3, c4⟩ : E4) = R := ⟨_, rfl⟩
 have hrB : Rq4 base B0 := hB0 ▸ hrq
 obtain ⟨R0, ok, hok, crd⟩ := read_q (cd := cd) (ct := ct) (c1 := c1) (c2 := c2) (c3 := c3) (c4 := c4) ecd l hl
 have HOK := ϕ (show (dec l).isSome = ok from by
  rcases hok with ⟨h1, p, h2, _⟩ | ⟨h1, h2⟩
  · rw [h1, h2]; rfl
  · rw [h1, h2]; rfl)
 have CRD := ϕ crd
 have HL := ϕ hl
 rw [HOK.out]
 clear hok crd hl ecd ect hrq cbeg hB0 hrB
 go_enter Tryz.func10, Tryz.ntmps10
 go_upto_region 1 with ((with_reducible refine gate_ ?_); refine Rg.box_fresh rfl 22 _ rfl (Cv.bytesV l) rfl ?_; intro X hX hbX hnX; have HX := ϕ hX; have HBX := ϕ hbX; clear hX hbX hnX)
 obtain ⟨sb, hsb⟩ : ∃ n, w.heap.size = n := ⟨_, rfl⟩
 have Hsb := ϕ (show Rg.Blk X sb 22 (Cv.bytesV l) from hsb ▸ HX.out)
 have HBX := ϕ (show Below w.heap.size w X from HBX.out)
 have HSB := ϕ hsb
 try rw [hsb]
 clear HX hsb
 refine RL.start (RL.Aft X) (by kernel_rfl) (RL.Aft.drew (RL.Aft.refl X)) ?_
 refine RL.tw 1 (v := .agg (Cv.bytesV l)) rfl (fun W hSW => RT.run_row 22 _ rfl _ rfl _ _ (aft_blk hSW Hsb.out) Tryz.underlying22 rfl (by rw [Cv.bytesV_size, HL.out]; kernel_rfl)) ?_
 try go_frame
 refine' RL.rest_of (T := ?TT) (fun cb ab W => RL.Aft X W ∧ Rg.Blk W cb 57 (u64s (els [cd, ct, c1, c2, c3, c4])) ∧ Rg.Blk W ab 51 q20 ∧ X.heap.size ≤ ab) ?hmain ?hrr
 case hmain =>
  intro hrest
  refine RL.step2 (i := 0) (j := 6) rfl rfl (by kernel_rfl) (by rfl) (by rfl) (fun y1 hly1 hsy1 K hK => ?_) (fun y1 hly1 hsy1 K hK => ?_)
  · refine RL.wp_enter (F := 18) (args := #[]) (by go_simp; try rfl) ?_
    refine (CBE.out y1).mono ?_
    rintro e y1x ⟨⟨cb, hcb, rfl, kcb⟩, hb⟩
    have hSy1x : RL.Aft X y1x := RL.Aft.lat hsy1 hb
    refine ⟨_, rfl, hK.out _ _ (RL.Aft.lat hsy1 hb) ?_⟩
    have kcb : Rg.Blk y1x cb 57 (u64s (els [cd, ct, c1, c2, c3, c4])) := kcb
    clear hK
    try go_frame
    refine RL.step2 (i := 2) (j := 6) rfl rfl (by kernel_rfl) (by rfl) (by rfl) (fun y2 hly2 hsy2 K hK => ?_) (fun y2 hly2 hsy2 K hK => ?_)
    · have kcb := kcb.below hly2 kcb.lt
      refine RL.wp_enter (F := 27) (args := #[.pointer (some ⟨cb, 0, none⟩), .agg (Cv.bytesV l)]) (by go_simp; try rfl) ?_
      refine (CRD.out cb y2 kcb).mono ?_
      rintro e y2x ⟨rfl, hb⟩
      have hSy2x : RL.Aft X y2x := RL.Aft.lat hsy2 hb
      have kcb := kcb.below hb kcb.lt
      refine ⟨_, rfl, hK.out _ _ (RL.Aft.lat hsy2 hb) ?_⟩
      clear hK
      try go_frame
      refine' RL.tv 3 ?hk15 ?_
      case hk15 => (intro W hSW; go_simp; try with_reducible rfl)
      try go_frame
      refine' RL.tv 4 ?hk16 ?_
      case hk16 => (intro W hSW; go_simp; try with_reducible rfl)
      try go_frame
      refine' RL.tv 5 ?hk17 ?_
      case hk17 => (intro W hSW; go_simp; try with_reducible rfl)
      try go_frame
      refine RL.sk 6 (fun y3 hly3 hsy3 K hK => ?_)
      have kcb := kcb.below hly3 kcb.lt
      refine RL.wp_made (v := .pointer (some ⟨y3.heap.size, 0, none⟩)) (w' := y3.alloc (.cells q20 51)) (by go_simp; try rfl) ?_
      obtain ⟨ab, hab⟩ : ∃ n, y3.heap.size = n := ⟨_, rfl⟩
      have hba : Below y3.heap.size y3 (y3.alloc (.cells q20 51)) := (Below.refl _ _).alloc (Nat.le_refl _) _
      have kab : Rg.Blk (y3.alloc (.cells q20 51)) ab 51 q20 := Rg.Blk.newAt hab.symm _ _
      have gab : X.heap.size ≤ ab := by rw [← hab]; exact (show RL.Aft X y3 from hsy3).size
      have kcb := kcb.below hba kcb.lt
      refine hK.out _ _ (RL.Aft.alloc hsy3 _) ?_
      try rw [hab]
      have hSy3y : RL.Aft X (y3.alloc (.cells q20 51)) := RL.Aft.alloc hsy3 _
      generalize hyy3 : y3.alloc (.cells q20 51) = y3y at *
      clear hab hba hyy3
      clear hK
      try go_frame
      refine RL.norm #[true, true, true, true, true, true, true, false, false] (by kernel_rfl) ?_
      exact hrest cb ab _ ⟨by assumption, kcb, kab, gab⟩
    · have kcb := kcb.below hly2 kcb.lt
      refine RL.wp_made (v := .pointer (some ⟨y2.heap.size, 0, none⟩)) (w' := y2.alloc (.cells q20 51)) (by go_simp; try rfl) ?_
      obtain ⟨ab, hab⟩ : ∃ n, y2.heap.size = n := ⟨_, rfl⟩
      have hba : Below y2.heap.size y2 (y2.alloc (.cells q20 51)) := (Below.refl _ _).alloc (Nat.le_refl _) _
      have kab : Rg.Blk (y2.alloc (.cells q20 51)) ab 51 q20 := Rg.Blk.newAt hab.symm _ _
      have gab : X.heap.size ≤ ab := by rw [← hab]; exact (show RL.Aft X y2 from hsy2).size
      have kcb := kcb.below hba kcb.lt
      refine hK.out _ _ (RL.Aft.alloc hsy2 _) ?_
      try rw [hab]
      have hSy2y : RL.Aft X (y2.alloc (.cells q20 51)) := RL.Aft.alloc hsy2 _
      generalize hyy2 : y2.alloc (.cells q20 51) = y2y at *
      clear hab hba hyy2
      clear hK
      try go_frame
      refine RL.sk 2 (fun y4 hly4 hsy4 K hK => ?_)
      have kcb := kcb.below hly4 kcb.lt
      have kab := kab.below hly4 kab.lt
      refine RL.wp_enter (F := 27) (args := #[.pointer (some ⟨cb, 0, none⟩), .agg (Cv.bytesV l)]) (by go_simp; try rfl) ?_
      refine (CRD.out cb y4 kcb).mono ?_
      rintro e y4x ⟨rfl, hb⟩
      have hSy4x : RL.Aft X y4x := RL.Aft.lat hsy4 hb
      have kcb := kcb.below hb kcb.lt
      have kab := kab.below hb kab.lt
      refine ⟨_, rfl, hK.out _ _ (RL.Aft.lat hsy4 hb) ?_⟩
      clear hK
      try go_frame
      refine' RL.tv 3 ?hk18 ?_
      case hk18 => (intro W hSW; go_simp; try with_reducible rfl)
      try go_frame
      refine' RL.tv 4 ?hk19 ?_
      case hk19 => (intro W hSW; go_simp; try with_reducible rfl)
      try go_frame
      refine' RL.tv 5 ?hk20 ?_
      case hk20 => (intro W hSW; go_simp; try with_reducible rfl)
      try go_frame
      refine RL.norm #[true, true, true, true, true, true, true, false, false] (by kernel_rfl) ?_
      exact hrest cb ab _ ⟨by assumption, kcb, kab, gab⟩
  · refine RL.wp_made (v := .pointer (some ⟨y1.heap.size, 0, none⟩)) (w' := y1.alloc (.cells q20 51)) (by go_simp; try rfl) ?_
    obtain ⟨ab, hab⟩ : ∃ n, y1.heap.size = n := ⟨_, rfl⟩
    have hba : Below y1.heap.size y1 (y1.alloc (.cells q20 51)) := (Below.refl _ _).alloc (Nat.le_refl _) _
    have kab : Rg.Blk (y1.alloc (.cells q20 51)) ab 51 q20 := Rg.Blk.newAt hab.symm _ _
    have gab : X.heap.size ≤ ab := by rw [← hab]; exact (show RL.Aft X y1 from hsy1).size
    refine hK.out _ _ (RL.Aft.alloc hsy1 _) ?_
    try rw [hab]
    have hSy1y : RL.Aft X (y1.alloc (.cells q20 51)) := RL.Aft.alloc hsy1 _
    generalize hyy1 : y1.alloc (.cells q20 51) = y1y at *
    clear hab hba hyy1
    clear hK
    try go_frame
    refine RL.sk 0 (fun y5 hly5 hsy5 K hK => ?_)
    have kab := kab.below hly5 kab.lt
    refine RL.wp_enter (F := 18) (args := #[]) (by go_simp; try rfl) ?_
    refine (CBE.out y5).mono ?_
    rintro e y5x ⟨⟨cb, hcb, rfl, kcb⟩, hb⟩
    have hSy5x : RL.Aft X y5x := RL.Aft.lat hsy5 hb
    have kab := kab.below hb kab.lt
    refine ⟨_, rfl, hK.out _ _ (RL.Aft.lat hsy5 hb) ?_⟩
    have kcb : Rg.Blk y5x cb 57 (u64s (els [cd, ct, c1, c2, c3, c4])) := kcb
    clear hK
    try go_frame
    refine RL.sk 2 (fun y6 hly6 hsy6 K hK => ?_)
    have kab := kab.below hly6 kab.lt
    have kcb := kcb.below hly6 kcb.lt
    refine RL.wp_enter (F := 27) (args := #[.pointer (some ⟨cb, 0, none⟩), .agg (Cv.bytesV l)]) (by go_simp; try rfl) ?_
    refine (CRD.out cb y6 kcb).mono ?_
    rintro e y6x ⟨rfl, hb⟩
    have hSy6x : RL.Aft X y6x := RL.Aft.lat hsy6 hb
    have kab := kab.below hb kab.lt
    have kcb := kcb.below hb kcb.lt
    refine ⟨_, rfl, hK.out _ _ (RL.Aft.lat hsy6 hb) ?_⟩
    clear hK
    try go_frame
    refine' RL.tv 3 ?hk21 ?_
    case hk21 => (intro W hSW; go_simp; try with_reducible rfl)
    try go_frame
    refine' RL.tv 4 ?hk22 ?_
    case hk22 => (intro W hSW; go_simp; try with_reducible rfl)
    try go_frame
    refine' RL.tv 5 ?hk23 ?_
    case hk23 => (intro W hSW; go_simp; try with_reducible rfl)
    try go_frame
    refine RL.norm #[true, true, true, true, true, true, true, false, false] (by kernel_rfl) ?_
    exact hrest cb ab _ ⟨by assumption, kcb, kab, gab⟩
 case hrr =>
  rintro cb ab Z0 ⟨ha0, -, g2, gab⟩
  refine RL.sk 7 (fun va hlva hsva K hK => ?_)
  have g2 := g2.below hlva g2.lt
  refine store_blk_op 51 _ _ rfl ab (u64s (els [R0.x, R0.y, R0.z, R0.t])) _ 51 rfl (by rfl) g2 (by kernel_rfl) rfl (els_all _) ?_
  intro Y hY hgY
  refine hK.out _ _ (Below.grown hsva hgY (Below.size hsva) (fun k hk => by cases hk; exact gab)) ?_
  clear hK
  try go_frame
  refine' RL.tv 8 ?hk24 ?_
  case hk24 => (intro W hSW; go_simp; try with_reducible rfl)
  try go_frame
  refine RL.done (by kernel_rfl) (fun V hlV hsV => ?_)
  have HB := ϕ (HBX.out.trans (Below.mono (show Below X.heap.size X V from hsV) HBX.out.size))
  go_wp2_with fail
  go_ret
  exact ⟨rfl, HSB.out ▸ HB.out⟩
theorem parts_blk {w : World} {T b : Nat} (xs : List ByteArray) (h : Rg.Blk w b T (xs.map Value.string).toArray) (n : Nat) (hn : n = xs.length) : Jo.Parts w (.slice (some ⟨b, 0, none⟩) n n) xs := by
 subst hn
 exact .inr ⟨b, 0, xs.length, rfl, fun j x hx => by rw [Nat.zero_add]; exact h.cell j (by simp [hx]), h.lt, Nat.le_refl _⟩
/-- copy of bytes into a row of bytes -/
theorem copy_op {P : Program} {o : Oper} {a : Act} {w : World} {K : Act → World → Prop} {Q : Exit → Act → World → Prop} (d s : Operand) (t t' e : TypeId) (ho : o.op = .call { callee := .builtin .copy, args := #[d, s], argTypes := #[t, t'] })
 {b off dl dc g so sl sc T : Nat} {l src : List UInt8} (hd : a.eval d = .slice (some ⟨b, off, none⟩) dl dc) (hs : a.eval s = .slice (some ⟨g, so, none⟩) sl sc) (hu : P.underlying t = some (.slice e)) (hz : (P.info? e).map (·.size) = some 1)
 (hB : Rg.Blk w b T (Cv.bytesV l)) (hS : Cv.Bytes w g so src) (hn : src.length = Nat.min sl dl) (hf : off + src.length ≤ l.length)
 (h : ∀ X v, Rg.Blk X b T (Cv.bytesV (l.take off ++ src ++ l.drop (off + src.length))) → w.grownBy X (some b) → K (a.put o.dst v) X) : Oper.wp P o a w K Q := by
 have hl : (Lib.byteCells src).length = src.length := by simp [Lib.byteCells]
 have hr := run_copy_row (P := P) w t t' o.type e b off dl dc ⟨g, so, none⟩ sl sc (Cv.bytesV l) T (Lib.byteCells src) hu hz hB (hl.trans hn) (fun j v hv => by
  have hv2 : (Cv.bytesV src)[j]? = some v := by unfold Cv.bytesV; rw [List.getElem?_toArray]; exact hv
  have h3 := hS.cells j v hv2
  have e3 : Addr.add ⟨g, so, none⟩ j = ⟨g, so + j, none⟩ := by unfold Addr.add; split <;> simp_all
  rw [e3]; exact h3) (by rw [hl, Cv.bytesV_size]; exact hf) (by intro v hv; simp [Lib.byteCells] at hv; obtain ⟨x, _, rfl⟩ := hv; rfl)
 have e1 : ((Cv.bytesV l).toList.take off ++ Lib.byteCells src ++ (Cv.bytesV l).toList.drop (off + (Lib.byteCells src).length)).toArray = Cv.bytesV (l.take off ++ src ++ l.drop (off + src.length)) := by
  rw [hl]
  unfold Cv.bytesV
  simp [Lib.byteCells, List.map_take, List.map_drop]
 rw [e1] at hr
 refine Lib.wp_copy_run w d s t t' ho _ _ hd hs hr ?_
 exact h _ _ hB.setRow ⟨rfl, rfl, rfl, by simp, fun k _ hk => setRow_other w b k _ (fun e => hk (congrArg some e))⟩
theorem cb_ne_tb {W : World} {b T1 T2 : Nat} {c1 c2 : Array Value} (h1 : Rg.Blk W b T1 c1) (h2 : Rg.Blk W b T2 c2) (hT : T1 ≠ T2 := by decide) : False := by
 have := h1.symm.trans h2
 injection this with this
 injection this with _ this
 exact hT this
theorem muln_s {k a r : Nat} {ab : List UInt8} (hk : k < Ed.L) (hr : r < Ed.L) (ha : leN ab = a) : mulN (toLe 32 k) ab (toLe 32 r) % Ed.L = (k * a + r) % Ed.L := by
 unfold mulN
 rw [leN_l hk, leN_l hr, ha, Nat.mul_comm a, Nat.add_comm]
theorem Sign_any (w : World) (seed m : List UInt8) (hl : seed.length = 32) (hm : m.length ≤ 10000) (hT : Sha.Tables w) (hO : Ord w) : Calls Tryz.prog 12 #[.agg (Cv.bytesV seed), .string (bs m)] w fun e w' => e = .returned (.agg (Cv.bytesV (sig seed (pub seed) m))) ∧ Below w.heap.size w w' := by
 obtain ⟨cd, ct, c1, c2, c3, c4, ecd, ect, hrq, cbeg⟩ := begin_e
 have CBE := ϕ cbeg
 obtain ⟨B0, hB0⟩ : ∃ R : E4, (⟨c1, c2, c3, c4⟩ : E4) = R := ⟨_, rfl⟩
 have hrB : Rq4 base B0 := hB0 ▸ hrq
 have hop := fun W (hW : Sha.Tables W) => open_any W seed hl hW
 obtain ⟨sa, hsa⟩ : ∃ s, secA (dig5 seed) = s := ⟨_, rfl⟩
 obtain ⟨pf, hpf⟩ : ∃ s, (dig5 seed).drop 32 = s := ⟨_, rfl⟩
 have hsl : sa.length = 32 := by rw [← hsa]; exact clampB_l _ (dig5_len _)
 have hpl : pf.length = 32 := by rw [← hpf, List.length_drop, dig5_len]
 have han : leN sa = aN seed := by rw [← hsa]; rfl
 obtain ⟨ke, hke⟩ : ∃ s, pub seed = s := ⟨_, rfl⟩
 have hkp : pub seed = enc (Pt.mul (leN sa) base) := by rw [← hsa]; rfl
 rw [hsa, hpf] at hop
 obtain ⟨rr, hrr⟩ : ∃ s, toLe 32 (rN seed m) = s := ⟨_, rfl⟩
 have hrl : rr.length = 32 := by rw [← hrr, toLe_len]
 have hrn : rN seed m < Ed.L := red_lt _
 obtain ⟨rp, hat⟩ : ∃ s, enc (rP seed m) = s := ⟨_, rfl⟩
 have hatl : rp.length = 32 := by rw [← hat]; exact enc_len _
 have hkl : ke.length = 32 := by rw [← hke, hkp]; exact enc_len _
 obtain ⟨kk, hkk⟩ : ∃ s, toLe 32 (red (rp ++ ke ++ m)) = s := ⟨_, rfl⟩
 have hkkl : kk.length = 32 := by rw [← hkk, toLe_len]
 obtain ⟨ss, hss⟩ : ∃ s, toLe 32 (sN seed ke m) = s := ⟨_, rfl⟩
 have hssl : ss.length = 32 := by rw [← hss, toLe_len]
 have hms : toLe 32 (mulN kk sa rr % Ed.L) = ss := by
  rw [← hkk, ← hrr, muln_s (red_lt _) hrn han, ← hss]
  unfold sN
  rw [hat]
 obtain ⟨R1, hR1, cm1⟩ := mult_q (cd := cd) (ct := ct) (c1 := c1) (c2 := c2) (c3 := c3) (c4 := c4) ect hrB sa hsl
 have cb1 := bytes_q hR1
 rw [← hkp, hke] at cb1
 obtain ⟨R2, hR2, cm2⟩ := mult_q (cd := cd) (ct := ct) (c1 := c1) (c2 := c2) (c3 := c3) (c4 := c4) ect hrB rr hrl
 have cb2 := bytes_q hR2
 rw [← hrr, leN_l hrn, show enc (Pt.mul (rN seed m) base) = enc (rP seed m) from rfl, hat] at cb2
 have HRES := ϕ (show sig seed ke m = rp ++ ss from by unfold sig; rw [hat, hss])
 have HR1 := ϕ (fun W v (hT : Sha.Tables W) (hO : Ord W) (hv : Jo.Parts W v [bs pf, bs m]) => show Calls Tryz.prog 28 #[v] W fun e w' => e = .returned (.agg (Cv.bytesV rr)) ∧ Below W.heap.size W w' from by
  have h := reduce_l W v _ (pf ++ m) (by rw [Jo.joined_list]; simp [bs_list]) (by rw [List.length_append]; omega) (by simp) hT hO hv
  rw [← hrr]
  unfold rN
  rw [hpf]
  exact h)
 have HR2 := ϕ (fun W v (hT : Sha.Tables W) (hO : Ord W) (hv : Jo.Parts W v [⟨rp.toArray⟩, ⟨ke.toArray⟩, bs m]) => show Calls Tryz.prog 28 #[v] W fun e w' => e = .returned (.agg (Cv.bytesV kk)) ∧ Below W.heap.size W w' from by
  have h := reduce_l W v _ (rp ++ ke ++ m) (by rw [Jo.joined_list]; simp [bs_list]) (by rw [List.length_append, List.length_append]; omega) (by simp) hT hO hv
  rw [← hkk]
  exact h)
 have CMA := ϕ (fun W (hO : Ord W) => show Calls Tryz.prog 29 #[.agg (Cv.bytesV kk), .agg (Cv.bytesV sa), .agg (Cv.bytesV rr)] W fun e w' => e = .returned (.agg (Cv.bytesV ss)) ∧ Below W.heap.size W w' from hms ▸ MulAdd_any W kk sa rr hkkl hsl hrl hO)
 have HOP := ϕ hop
 have CM1 := ϕ (hB0 ▸ cm1)
 have CB1 := ϕ cb1
 have CM2 := ϕ (hB0 ▸ cm2)
 have CB2 := ϕ cb2
 have HSL := ϕ hsl
 have HKL := ϕ hkl
 have HRL := ϕ hrl
 have HAL := ϕ hatl
 have HSS := ϕ hssl
 have HGL := ϕ (show (rp ++ ss).length = 64 from by rw [List.length_append]; omega)
 have EQ1 := ϕ (show (List.replicate 64 (0 : UInt8)).take 0 ++ rp ++ (List.replicate 64 (0 : UInt8)).drop (0 + rp.length) = rp ++ List.replicate 32 0 from by rw [hatl]; simp)
 have EQ2 := ϕ (show (rp ++ List.replicate 32 (0 : UInt8)).take 32 ++ ss ++ (rp ++ List.replicate 32 (0 : UInt8)).drop (32 + ss.length) = rp ++ ss from by
  rw [List.take_append_of_le_length (by omega), List.take_of_length_le (by omega), List.drop_eq_nil_of_le (by simp; omega), List.append_nil])
 have HL := ϕ hl
 have HT := ϕ hT
 have HO := ϕ hO
 rw [hke]
 clear hop hsa hpf hsl hpl han hke hkp hR1 cm1 cb1 hR2 cm2 cb2 hrr hrl hrn hat hatl hkl hkk hkkl hss hssl hms hl hm hT hO ecd ect hrq cbeg hB0 hrB
 go_enter Tryz.func12, Tryz.ntmps12
 go_upto_region 1 with ((with_reducible refine gate_ ?_); refine Rg.box_fresh rfl 22 _ rfl (Cv.bytesV seed) rfl ?_; intro X hX hbX hnX; have HX := ϕ hX; have HBX := ϕ hbX; clear hX hbX hnX)
 obtain ⟨sb, hsb⟩ : ∃ n, w.heap.size = n := ⟨_, rfl⟩
 obtain ⟨rb, hrb⟩ : ∃ n, X.heap.size = n := ⟨_, rfl⟩
 have GR := ϕ (show w.heap.size ≤ rb from hrb ▸ HBX.out.size)
 have Hsb := ϕ (show Rg.Blk (X.alloc (.cells #[.int .u8 0, .int .u8 0, .int .u8 0, .int .u8 0, .int .u8 0, .int .u8 0, .int .u8 0, .int .u8 0, .int .u8 0, .int .u8 0, .int .u8 0, .int .u8 0, .int .u8 0, .int .u8 0, .int .u8 0, .int .u8 0, .int .u8 0, .int .u8 0, .int .u8 0, .int .u8 0, .int .u8 0, .int .u8 0, .int .u8 0, .int .u8 0, .int .u8 0, .int .u8 0, .int .u8 0, .int .u8 0, .int .u8 0, .int .u8 0, .int .u8 0, .int .u8 0, .int .u8 0, .int .u8 0, .int .u8 0, .int .u8 0, .int .u8 0, .int .u8 0, .int .u8 0, .int .u8 0, .int .u8 0, .int .u8 0, .int .u8 0, .int .u8 0, .int .u8 0, .int .u8 0, .int .u8 0, .int .u8 0, .int .u8 0, .int .u8 0, .int .u8 0, .int .u8 0, .int .u8 0, .int .u8 0, .int .u8 0, .int .u8 0, .int .u8 0, .int .u8 0, .int .u8 0, .int .u8 0, .int .u8 0, .int .u8 0, .int .u8 0, .int .u8 0] 29)) sb 22 (Cv.bytesV seed) from (hsb ▸ HX.out).alloc _)
 have Hrb := ϕ (show Rg.Blk (X.alloc (.cells #[.int .u8 0, .int .u8 0, .int .u8 0, .int .u8 0, .int .u8 0, .int .u8 0, .int .u8 0, .int .u8 0, .int .u8 0, .int .u8 0, .int .u8 0, .int .u8 0, .int .u8 0, .int .u8 0, .int .u8 0, .int .u8 0, .int .u8 0, .int .u8 0, .int .u8 0, .int .u8 0, .int .u8 0, .int .u8 0, .int .u8 0, .int .u8 0, .int .u8 0, .int .u8 0, .int .u8 0, .int .u8 0, .int .u8 0, .int .u8 0, .int .u8 0, .int .u8 0, .int .u8 0, .int .u8 0, .int .u8 0, .int .u8 0, .int .u8 0, .int .u8 0, .int .u8 0, .int .u8 0, .int .u8 0, .int .u8 0, .int .u8 0, .int .u8 0, .int .u8 0, .int .u8 0, .int .u8 0, .int .u8 0, .int .u8 0, .int .u8 0, .int .u8 0, .int .u8 0, .int .u8 0, .int .u8 0, .int .u8 0, .int .u8 0, .int .u8 0, .int .u8 0, .int .u8 0, .int .u8 0, .int .u8 0, .int .u8 0, .int .u8 0, .int .u8 0] 29)) rb 29 (#[.int .u8 0, .int .u8 0, .int .u8 0, .int .u8 0, .int .u8 0, .int .u8 0, .int .u8 0, .int .u8 0, .int .u8 0, .int .u8 0, .int .u8 0, .int .u8 0, .int .u8 0, .int .u8 0, .int .u8 0, .int .u8 0, .int .u8 0, .int .u8 0, .int .u8 0, .int .u8 0, .int .u8 0, .int .u8 0, .int .u8 0, .int .u8 0, .int .u8 0, .int .u8 0, .int .u8 0, .int .u8 0, .int .u8 0, .int .u8 0, .int .u8 0, .int .u8 0, .int .u8 0, .int .u8 0, .int .u8 0, .int .u8 0, .int .u8 0, .int .u8 0, .int .u8 0, .int .u8 0, .int .u8 0, .int .u8 0, .int .u8 0, .int .u8 0, .int .u8 0, .int .u8 0, .int .u8 0, .int .u8 0, .int .u8 0, .int .u8 0, .int .u8 0, .int .u8 0, .int .u8 0, .int .u8 0, .int .u8 0, .int .u8 0, .int .u8 0, .int .u8 0, .int .u8 0, .int .u8 0, .int .u8 0, .int .u8 0, .int .u8 0, .int .u8 0] : Array Value) from Rg.Blk.newAt hrb.symm _ _)
 have HB := ϕ (show Below w.heap.size w (X.alloc (.cells #[.int .u8 0, .int .u8 0, .int .u8 0, .int .u8 0, .int .u8 0, .int .u8 0, .int .u8 0, .int .u8 0, .int .u8 0, .int .u8 0, .int .u8 0, .int .u8 0, .int .u8 0, .int .u8 0, .int .u8 0, .int .u8 0, .int .u8 0, .int .u8 0, .int .u8 0, .int .u8 0, .int .u8 0, .int .u8 0, .int .u8 0, .int .u8 0, .int .u8 0, .int .u8 0, .int .u8 0, .int .u8 0, .int .u8 0, .int .u8 0, .int .u8 0, .int .u8 0, .int .u8 0, .int .u8 0, .int .u8 0, .int .u8 0, .int .u8 0, .int .u8 0, .int .u8 0, .int .u8 0, .int .u8 0, .int .u8 0, .int .u8 0, .int .u8 0, .int .u8 0, .int .u8 0, .int .u8 0, .int .u8 0, .int .u8 0, .int .u8 0, .int .u8 0, .int .u8 0, .int .u8 0, .int .u8 0, .int .u8 0, .int .u8 0, .int .u8 0, .int .u8 0, .int .u8 0, .int .u8 0, .int .u8 0, .int .u8 0, .int .u8 0, .int .u8 0] 29)) from HBX.out.alloc HBX.out.size _)
 have HT := ϕ (HT.out.below HB.out HT.out.size)
 have HO := ϕ (HO.out.below HB.out HO.out.size)
 try rw [hsb]
 try rw [hrb]
 clear HX HBX hsb hrb
 generalize (X.alloc (.cells #[.int .u8 0, .int .u8 0, .int .u8 0, .int .u8 0, .int .u8 0, .int .u8 0, .int .u8 0, .int .u8 0, .int .u8 0, .int .u8 0, .int .u8 0, .int .u8 0, .int .u8 0, .int .u8 0, .int .u8 0, .int .u8 0, .int .u8 0, .int .u8 0, .int .u8 0, .int .u8 0, .int .u8 0, .int .u8 0, .int .u8 0, .int .u8 0, .int .u8 0, .int .u8 0, .int .u8 0, .int .u8 0, .int .u8 0, .int .u8 0, .int .u8 0, .int .u8 0, .int .u8 0, .int .u8 0, .int .u8 0, .int .u8 0, .int .u8 0, .int .u8 0, .int .u8 0, .int .u8 0, .int .u8 0, .int .u8 0, .int .u8 0, .int .u8 0, .int .u8 0, .int .u8 0, .int .u8 0, .int .u8 0, .int .u8 0, .int .u8 0, .int .u8 0, .int .u8 0, .int .u8 0, .int .u8 0, .int .u8 0, .int .u8 0, .int .u8 0, .int .u8 0, .int .u8 0, .int .u8 0, .int .u8 0, .int .u8 0, .int .u8 0, .int .u8 0] 29)) = Y at *
 refine RL.start (RL.Aft Y) (by kernel_rfl) (RL.Aft.drew (RL.Aft.refl Y)) ?_
 refine RL.tw 1 (v := .agg (Cv.bytesV seed)) rfl (fun W hSW => RT.run_row 22 _ rfl _ rfl _ _ (aft_blk hSW Hsb.out) Tryz.underlying22 rfl (by rw [Cv.bytesV_size, HL.out]; kernel_rfl)) ?_
 try go_frame
 refine' RL.rest_of (T := ?TTq7) (fun cb tb W => RL.Aft Y W ∧ Rg.Blk W cb 57 (u64s (els [cd, ct, c1, c2, c3, c4])) ∧ Rg.Blk W tb 54 (#[.int .u8 0, .int .u8 0, .int .u8 0, .int .u8 0, .int .u8 0, .int .u8 0, .int .u8 0, .int .u8 0, .int .u8 0, .int .u8 0, .int .u8 0, .int .u8 0, .int .u8 0, .int .u8 0, .int .u8 0, .int .u8 0, .int .u8 0, .int .u8 0, .int .u8 0, .int .u8 0, .int .u8 0, .int .u8 0, .int .u8 0, .int .u8 0, .int .u8 0, .int .u8 0, .int .u8 0, .int .u8 0, .int .u8 0, .int .u8 0, .int .u8 0, .int .u8 0, .string ⟨#[]⟩] : Array Value) ∧ Y.heap.size ≤ tb) ?hmainq7 ?hrrq7
 case hmainq7 =>
  intro hrest
  refine RL.step2 (i := 0) (j := 3) rfl rfl (by kernel_rfl) (by rfl) (by rfl) (fun y8 hly8 hsy8 K hK => ?_) (fun y8 hly8 hsy8 K hK => ?_)
  · refine RL.wp_enter (F := 18) (args := #[]) (by go_simp; try rfl) ?_
    refine (CBE.out y8).mono ?_
    rintro e y8x ⟨⟨cb, hcb, rfl, kcb⟩, hb⟩
    have hSy8x : RL.Aft Y y8x := RL.Aft.lat hsy8 hb
    refine ⟨_, rfl, hK.out _ _ (RL.Aft.lat hsy8 hb) ?_⟩
    have kcb : Rg.Blk y8x cb 57 (u64s (els [cd, ct, c1, c2, c3, c4])) := kcb
    clear hK
    try go_frame
    refine' RL.tc 2 (v := (.agg (secV sa pf))) 20 #[.agg (Cv.bytesV seed)] ?hk25 ?hc25 ?_
    case hk25 => (intro W; go_simp; try with_reducible rfl)
    case hc25 => (intro W hSW; exact (HOP.out W (HT.out.below hSW HT.out.size)).mono (fun e w9 h9 => ⟨h9.1, h9.2, RL.Aft.lat hSW h9.2⟩))
    try go_frame
    refine RL.sk 3 (fun y9 hly9 hsy9 K hK => ?_)
    have kcb := kcb.below hly9 kcb.lt
    refine RL.wp_made (v := .pointer (some ⟨y9.heap.size, 0, none⟩)) (w' := y9.alloc (.cells #[.int .u8 0, .int .u8 0, .int .u8 0, .int .u8 0, .int .u8 0, .int .u8 0, .int .u8 0, .int .u8 0, .int .u8 0, .int .u8 0, .int .u8 0, .int .u8 0, .int .u8 0, .int .u8 0, .int .u8 0, .int .u8 0, .int .u8 0, .int .u8 0, .int .u8 0, .int .u8 0, .int .u8 0, .int .u8 0, .int .u8 0, .int .u8 0, .int .u8 0, .int .u8 0, .int .u8 0, .int .u8 0, .int .u8 0, .int .u8 0, .int .u8 0, .int .u8 0, .string ⟨#[]⟩] 54)) (by go_simp; try rfl) ?_
    obtain ⟨tb, htb⟩ : ∃ n, y9.heap.size = n := ⟨_, rfl⟩
    have hba : Below y9.heap.size y9 (y9.alloc (.cells #[.int .u8 0, .int .u8 0, .int .u8 0, .int .u8 0, .int .u8 0, .int .u8 0, .int .u8 0, .int .u8 0, .int .u8 0, .int .u8 0, .int .u8 0, .int .u8 0, .int .u8 0, .int .u8 0, .int .u8 0, .int .u8 0, .int .u8 0, .int .u8 0, .int .u8 0, .int .u8 0, .int .u8 0, .int .u8 0, .int .u8 0, .int .u8 0, .int .u8 0, .int .u8 0, .int .u8 0, .int .u8 0, .int .u8 0, .int .u8 0, .int .u8 0, .int .u8 0, .string ⟨#[]⟩] 54)) := (Below.refl _ _).alloc (Nat.le_refl _) _
    have ktb : Rg.Blk (y9.alloc (.cells #[.int .u8 0, .int .u8 0, .int .u8 0, .int .u8 0, .int .u8 0, .int .u8 0, .int .u8 0, .int .u8 0, .int .u8 0, .int .u8 0, .int .u8 0, .int .u8 0, .int .u8 0, .int .u8 0, .int .u8 0, .int .u8 0, .int .u8 0, .int .u8 0, .int .u8 0, .int .u8 0, .int .u8 0, .int .u8 0, .int .u8 0, .int .u8 0, .int .u8 0, .int .u8 0, .int .u8 0, .int .u8 0, .int .u8 0, .int .u8 0, .int .u8 0, .int .u8 0, .string ⟨#[]⟩] 54)) tb 54 #[.int .u8 0, .int .u8 0, .int .u8 0, .int .u8 0, .int .u8 0, .int .u8 0, .int .u8 0, .int .u8 0, .int .u8 0, .int .u8 0, .int .u8 0, .int .u8 0, .int .u8 0, .int .u8 0, .int .u8 0, .int .u8 0, .int .u8 0, .int .u8 0, .int .u8 0, .int .u8 0, .int .u8 0, .int .u8 0, .int .u8 0, .int .u8 0, .int .u8 0, .int .u8 0, .int .u8 0, .int .u8 0, .int .u8 0, .int .u8 0, .int .u8 0, .int .u8 0, .string ⟨#[]⟩] := Rg.Blk.newAt htb.symm _ _
    have gtb : Y.heap.size ≤ tb := by rw [← htb]; exact (show RL.Aft Y y9 from hsy9).size
    have kcb := kcb.below hba kcb.lt
    refine hK.out _ _ (RL.Aft.alloc hsy9 _) ?_
    try rw [htb]
    have hSy9y : RL.Aft Y (y9.alloc (.cells #[.int .u8 0, .int .u8 0, .int .u8 0, .int .u8 0, .int .u8 0, .int .u8 0, .int .u8 0, .int .u8 0, .int .u8 0, .int .u8 0, .int .u8 0, .int .u8 0, .int .u8 0, .int .u8 0, .int .u8 0, .int .u8 0, .int .u8 0, .int .u8 0, .int .u8 0, .int .u8 0, .int .u8 0, .int .u8 0, .int .u8 0, .int .u8 0, .int .u8 0, .int .u8 0, .int .u8 0, .int .u8 0, .int .u8 0, .int .u8 0, .int .u8 0, .int .u8 0, .string ⟨#[]⟩] 54)) := RL.Aft.alloc hsy9 _
    generalize hyy9 : y9.alloc (.cells #[.int .u8 0, .int .u8 0, .int .u8 0, .int .u8 0, .int .u8 0, .int .u8 0, .int .u8 0, .int .u8 0, .int .u8 0, .int .u8 0, .int .u8 0, .int .u8 0, .int .u8 0, .int .u8 0, .int .u8 0, .int .u8 0, .int .u8 0, .int .u8 0, .int .u8 0, .int .u8 0, .int .u8 0, .int .u8 0, .int .u8 0, .int .u8 0, .int .u8 0, .int .u8 0, .int .u8 0, .int .u8 0, .int .u8 0, .int .u8 0, .int .u8 0, .int .u8 0, .string ⟨#[]⟩] 54) = y9y at *
    clear htb hba hyy9
    clear hK
    try go_frame
    refine RL.norm #[true, true, true, true, false, false] (by kernel_rfl) ?_
    exact hrest cb tb _ ⟨by assumption, kcb, ktb, gtb⟩
  · refine RL.wp_made (v := .pointer (some ⟨y8.heap.size, 0, none⟩)) (w' := y8.alloc (.cells #[.int .u8 0, .int .u8 0, .int .u8 0, .int .u8 0, .int .u8 0, .int .u8 0, .int .u8 0, .int .u8 0, .int .u8 0, .int .u8 0, .int .u8 0, .int .u8 0, .int .u8 0, .int .u8 0, .int .u8 0, .int .u8 0, .int .u8 0, .int .u8 0, .int .u8 0, .int .u8 0, .int .u8 0, .int .u8 0, .int .u8 0, .int .u8 0, .int .u8 0, .int .u8 0, .int .u8 0, .int .u8 0, .int .u8 0, .int .u8 0, .int .u8 0, .int .u8 0, .string ⟨#[]⟩] 54)) (by go_simp; try rfl) ?_
    obtain ⟨tb, htb⟩ : ∃ n, y8.heap.size = n := ⟨_, rfl⟩
    have hba : Below y8.heap.size y8 (y8.alloc (.cells #[.int .u8 0, .int .u8 0, .int .u8 0, .int .u8 0, .int .u8 0, .int .u8 0, .int .u8 0, .int .u8 0, .int .u8 0, .int .u8 0, .int .u8 0, .int .u8 0, .int .u8 0, .int .u8 0, .int .u8 0, .int .u8 0, .int .u8 0, .int .u8 0, .int .u8 0, .int .u8 0, .int .u8 0, .int .u8 0, .int .u8 0, .int .u8 0, .int .u8 0, .int .u8 0, .int .u8 0, .int .u8 0, .int .u8 0, .int .u8 0, .int .u8 0, .int .u8 0, .string ⟨#[]⟩] 54)) := (Below.refl _ _).alloc (Nat.le_refl _) _
    have ktb : Rg.Blk (y8.alloc (.cells #[.int .u8 0, .int .u8 0, .int .u8 0, .int .u8 0, .int .u8 0, .int .u8 0, .int .u8 0, .int .u8 0, .int .u8 0, .int .u8 0, .int .u8 0, .int .u8 0, .int .u8 0, .int .u8 0, .int .u8 0, .int .u8 0, .int .u8 0, .int .u8 0, .int .u8 0, .int .u8 0, .int .u8 0, .int .u8 0, .int .u8 0, .int .u8 0, .int .u8 0, .int .u8 0, .int .u8 0, .int .u8 0, .int .u8 0, .int .u8 0, .int .u8 0, .int .u8 0, .string ⟨#[]⟩] 54)) tb 54 #[.int .u8 0, .int .u8 0, .int .u8 0, .int .u8 0, .int .u8 0, .int .u8 0, .int .u8 0, .int .u8 0, .int .u8 0, .int .u8 0, .int .u8 0, .int .u8 0, .int .u8 0, .int .u8 0, .int .u8 0, .int .u8 0, .int .u8 0, .int .u8 0, .int .u8 0, .int .u8 0, .int .u8 0, .int .u8 0, .int .u8 0, .int .u8 0, .int .u8 0, .int .u8 0, .int .u8 0, .int .u8 0, .int .u8 0, .int .u8 0, .int .u8 0, .int .u8 0, .string ⟨#[]⟩] := Rg.Blk.newAt htb.symm _ _
    have gtb : Y.heap.size ≤ tb := by rw [← htb]; exact (show RL.Aft Y y8 from hsy8).size
    refine hK.out _ _ (RL.Aft.alloc hsy8 _) ?_
    try rw [htb]
    have hSy8y : RL.Aft Y (y8.alloc (.cells #[.int .u8 0, .int .u8 0, .int .u8 0, .int .u8 0, .int .u8 0, .int .u8 0, .int .u8 0, .int .u8 0, .int .u8 0, .int .u8 0, .int .u8 0, .int .u8 0, .int .u8 0, .int .u8 0, .int .u8 0, .int .u8 0, .int .u8 0, .int .u8 0, .int .u8 0, .int .u8 0, .int .u8 0, .int .u8 0, .int .u8 0, .int .u8 0, .int .u8 0, .int .u8 0, .int .u8 0, .int .u8 0, .int .u8 0, .int .u8 0, .int .u8 0, .int .u8 0, .string ⟨#[]⟩] 54)) := RL.Aft.alloc hsy8 _
    generalize hyy8 : y8.alloc (.cells #[.int .u8 0, .int .u8 0, .int .u8 0, .int .u8 0, .int .u8 0, .int .u8 0, .int .u8 0, .int .u8 0, .int .u8 0, .int .u8 0, .int .u8 0, .int .u8 0, .int .u8 0, .int .u8 0, .int .u8 0, .int .u8 0, .int .u8 0, .int .u8 0, .int .u8 0, .int .u8 0, .int .u8 0, .int .u8 0, .int .u8 0, .int .u8 0, .int .u8 0, .int .u8 0, .int .u8 0, .int .u8 0, .int .u8 0, .int .u8 0, .int .u8 0, .int .u8 0, .string ⟨#[]⟩] 54) = y8y at *
    clear htb hba hyy8
    clear hK
    try go_frame
    refine RL.sk 0 (fun y10 hly10 hsy10 K hK => ?_)
    have ktb := ktb.below hly10 ktb.lt
    refine RL.wp_enter (F := 18) (args := #[]) (by go_simp; try rfl) ?_
    refine (CBE.out y10).mono ?_
    rintro e y10x ⟨⟨cb, hcb, rfl, kcb⟩, hb⟩
    have hSy10x : RL.Aft Y y10x := RL.Aft.lat hsy10 hb
    have ktb := ktb.below hb ktb.lt
    refine ⟨_, rfl, hK.out _ _ (RL.Aft.lat hsy10 hb) ?_⟩
    have kcb : Rg.Blk y10x cb 57 (u64s (els [cd, ct, c1, c2, c3, c4])) := kcb
    clear hK
    try go_frame
    refine' RL.tc 2 (v := (.agg (secV sa pf))) 20 #[.agg (Cv.bytesV seed)] ?hk26 ?hc26 ?_
    case hk26 => (intro W; go_simp; try with_reducible rfl)
    case hc26 => (intro W hSW; exact (HOP.out W (HT.out.below hSW HT.out.size)).mono (fun e w9 h9 => ⟨h9.1, h9.2, RL.Aft.lat hSW h9.2⟩))
    try go_frame
    refine RL.norm #[true, true, true, true, false, false] (by kernel_rfl) ?_
    exact hrest cb tb _ ⟨by assumption, kcb, ktb, gtb⟩
 case hrrq7 =>
  rintro cb tb Z0 ⟨ha0, kcb, hZ, gtb⟩
  have Ftb := ϕ gtb
  refine' RL.tv 4 ?hk27 ?_
  case hk27 => (intro W hSW; go_simp; try with_reducible rfl)
  try go_frame
  refine RL.sk 5 (fun va hlva hsva K hK => ?_)
  have hZ := hZ.below hlva hZ.lt
  have kcb := kcb.below hlva kcb.lt
  refine store_blk_op 54 _ _ rfl tb (secV sa pf) _ 54 rfl (by rfl) hZ (by rw [secV_size, HSL.out]; kernel_rfl) (by rw [secV_size, HSL.out]; rfl) (secV_one _ _) ?_
  intro Y9 hY hgY
  have kcb := blk_other kcb hgY (fun e => by subst e; exact cb_ne_tb kcb hZ)
  refine hK.out _ _ (Below.grown hsva hgY (Below.size hsva) (fun k hk => by cases hk; exact Ftb.out)) ?_
  clear hK
  try go_frame
  refine RL.done (by kernel_rfl) (fun Z1 hlZ1 hsZ1 => ?_)
  have Htb := ϕ (show Rg.Blk Z1 tb 54 (secV sa pf) from hY.below hlZ1 hY.lt)
  have Hcb := ϕ (show Rg.Blk Z1 cb 57 (u64s (els [cd, ct, c1, c2, c3, c4])) from kcb.below hlZ1 kcb.lt)
  clear hZ hY hgY hlva hsva kcb ha0 gtb Ftb
  have HA := ϕ (show RL.Aft Y Z1 from hsZ1)
  have Hrb := ϕ (aft_blk HA.out Hrb.out)
  have HT := ϕ (HT.out.below HA.out HT.out.size)
  have HO := ϕ (HO.out.below HA.out HO.out.size)
  have HB := ϕ (HB.out.trans (Below.mono HA.out HB.out.size))
  clear HA hsZ1 hlZ1 Hsb
  go_upto_region 2 with fail
  refine RL.start (RL.Aft Z1) (by kernel_rfl) (RL.Aft.drew (RL.Aft.refl Z1)) ?_
  refine' RL.tv 0 ?hk28 ?_
  case hk28 => (intro W hSW; go_simp; try with_reducible rfl)
  try go_frame
  refine' RL.tv 1 ?hk29 ?_
  case hk29 => (intro W hSW; go_simp; try with_reducible rfl)
  try go_frame
  refine RL.tw 2 (v := .agg (Cv.bytesV sa)) rfl (fun W hSW => run_at 22 _ rfl tb 0 rfl (Cv.bytesV sa) (fun j v hv => by rw [Nat.zero_add]; exact (aft_blk hSW Htb.out).cell j (secV_get hv)) Tryz.underlying22 rfl (by rw [Cv.bytesV_size, HSL.out]; kernel_rfl)) ?_
  try go_frame
  refine' RL.tv 3 ?hk30 ?_
  case hk30 => (intro W hSW; go_simp; try with_reducible rfl)
  try go_frame
  refine' RL.tv 4 ?hk31 ?_
  case hk31 => (intro W hSW; go_simp; try with_reducible rfl)
  try go_frame
  refine' RL.tv 5 ?hk32 ?_
  case hk32 => (intro W hSW; go_simp; try with_reducible rfl)
  try go_frame
  refine RL.tw 6 (v := .agg (u64s (els [c1, c2, c3, c4]))) rfl (fun W hSW => run_at 51 _ rfl cb 10 rfl (u64s (els [c1, c2, c3, c4])) (els_at (aft_blk hSW Hcb.out) 2 10 [c1, c2, c3, c4] rfl rfl (by simp)) Tryz.underlying51 rfl (by kernel_rfl)) ?_
  try go_frame
  refine' RL.tc 7 (v := (.agg (u64s (els [R1.x, R1.y, R1.z, R1.t])))) 19 #[.pointer (some ⟨cb, 0, none⟩), .agg (Cv.bytesV sa), .agg (u64s (els [c1, c2, c3, c4]))] ?hk33 ?hc33 ?_
  case hk33 => (intro W; go_simp; try with_reducible rfl)
  case hc33 => (intro W hSW; exact (CM1.out cb W (aft_blk hSW Hcb.out)).mono (fun e w9 h9 => ⟨h9.1, h9.2, RL.Aft.lat hSW h9.2⟩))
  try go_frame
  refine' RL.tc 8 (v := (.agg (Cv.bytesV ke))) 21 #[.agg (u64s (els [R1.x, R1.y, R1.z, R1.t]))] ?hk34 ?hc34 ?_
  case hk34 => (intro W; go_simp; try with_reducible rfl)
  case hc34 => (intro W hSW; exact (CB1.out W).mono (fun e w9 h9 => ⟨h9.1, h9.2, RL.Aft.lat hSW h9.2⟩))
  try go_frame
  refine RL.sk 9 (fun wa hlwa hswa K hK => ?_)
  go_simp
  obtain ⟨kb, hkb⟩ : ∃ n, wa.heap.size = n := ⟨_, rfl⟩
  have hZ := Rg.Blk.newAt hkb.symm z32 22
  have Fkb := ϕ (show Z1.heap.size ≤ kb from hkb ▸ Below.size hswa)
  refine hK.out _ _ (RL.Aft.alloc hswa _) ?_
  try rw [hkb]
  clear hK hkb
  try go_frame
  refine RL.sk 10 (fun va hlva hsva K hK => ?_)
  have hZ := hZ.below hlva hZ.lt
  refine store_blk_op 22 _ _ rfl kb (Cv.bytesV ke) _ 22 rfl (by rfl) hZ (by rw [Cv.bytesV_size, HKL.out]; kernel_rfl) (by rw [Cv.bytesV_size, HKL.out]; rfl) (Cv.bytesV_one _) ?_
  intro Y9 hY hgY
  refine hK.out _ _ (Below.grown hsva hgY (Below.size hsva) (fun k hk => by cases hk; exact Fkb.out)) ?_
  clear hK
  try go_frame
  refine RL.done (by kernel_rfl) (fun Z2 hlZ2 hsZ2 => ?_)
  have Hkb := ϕ (show Rg.Blk Z2 kb 22 (Cv.bytesV ke) from hY.below hlZ2 hY.lt)
  clear hZ hY hgY hlva hsva
  have HA := ϕ (show RL.Aft Z1 Z2 from hsZ2)
  have Hrb := ϕ (aft_blk HA.out Hrb.out)
  have Hcb := ϕ (aft_blk HA.out Hcb.out)
  have Htb := ϕ (aft_blk HA.out Htb.out)
  have HT := ϕ (HT.out.below HA.out HT.out.size)
  have HO := ϕ (HO.out.below HA.out HO.out.size)
  have HB := ϕ (HB.out.trans (Below.mono HA.out HB.out.size))
  clear HA hsZ2 hlZ2
  have xs := Htb.out.cell 32 (HSL.out ▸ secV_str sa pf)
  go_upto_region 4 with (first
   | (go_at_call 28; refine (HR1.out _ _ (HT.out.below ((Below.refl _ _).alloc (Nat.le_refl _) _) HT.out.size) (HO.out.below ((Below.refl _ _).alloc (Nat.le_refl _) _) HO.out.size) (parts_n _ _ [_, _] (by simp) 2 rfl)).mono ?_; rintro e w3 ⟨rfl, hb1⟩; have hb2 := (Below.alloc (Below.refl Z2.heap.size Z2) (Nat.le_refl _) _).trans (hb1.mono (by simp)); have Hrb := ϕ (Hrb.out.below hb2 Hrb.out.lt); have Hcb := ϕ (Hcb.out.below hb2 Hcb.out.lt); have Htb := ϕ (Htb.out.below hb2 Htb.out.lt); have Hkb := ϕ (Hkb.out.below hb2 Hkb.out.lt); have HT := ϕ (HT.out.below hb2 HT.out.size); have HO := ϕ (HO.out.below hb2 HO.out.size); have HB := tm HB hb2; clear hb1 hb2)
   | (refine Rg.store_fresh rfl 22 _ _ rfl (Cv.bytesV rr) _ 22 rfl rfl (by rw [Cv.bytesV_size, HRL.out]; kernel_rfl) (by rw [Cv.bytesV_size, HRL.out]; rfl) (Cv.bytesV_one _) ?_; intro Z3 hX hbX; have Hmb := ϕ hX; have Hrb := ϕ (Hrb.out.below hbX Hrb.out.lt); have Hcb := ϕ (Hcb.out.below hbX Hcb.out.lt); have Htb := ϕ (Htb.out.below hbX Htb.out.lt); have Hkb := ϕ (Hkb.out.below hbX Hkb.out.lt); have HT := ϕ (HT.out.below hbX HT.out.size); have HO := ϕ (HO.out.below hbX HO.out.size); have HB := tm HB hbX; clear hX hbX))
  obtain ⟨mb, hmb⟩ : ∃ n, w3.heap.size = n := ⟨_, rfl⟩
  have Hmb := ϕ (show Rg.Blk Z3 mb 22 (Cv.bytesV rr) from hmb ▸ Hmb.out)
  try rw [hmb]
  clear hmb xs
  refine RL.start (RL.Aft Z3) (by kernel_rfl) (RL.Aft.drew (RL.Aft.refl Z3)) ?_
  refine' RL.tv 0 ?hk35 ?_
  case hk35 => (intro W hSW; go_simp; try with_reducible rfl)
  try go_frame
  refine RL.tw 1 (v := .agg (Cv.bytesV rr)) rfl (fun W hSW => RT.run_row 22 _ rfl _ rfl _ _ (aft_blk hSW Hmb.out) Tryz.underlying22 rfl (by rw [Cv.bytesV_size, HRL.out]; kernel_rfl)) ?_
  try go_frame
  refine' RL.tv 2 ?hk36 ?_
  case hk36 => (intro W hSW; go_simp; try with_reducible rfl)
  try go_frame
  refine' RL.tv 3 ?hk37 ?_
  case hk37 => (intro W hSW; go_simp; try with_reducible rfl)
  try go_frame
  refine' RL.tv 4 ?hk38 ?_
  case hk38 => (intro W hSW; go_simp; try with_reducible rfl)
  try go_frame
  refine RL.tw 5 (v := .agg (u64s (els [c1, c2, c3, c4]))) rfl (fun W hSW => run_at 51 _ rfl cb 10 rfl (u64s (els [c1, c2, c3, c4])) (els_at (aft_blk hSW Hcb.out) 2 10 [c1, c2, c3, c4] rfl rfl (by simp)) Tryz.underlying51 rfl (by kernel_rfl)) ?_
  try go_frame
  refine' RL.tc 6 (v := (.agg (u64s (els [R2.x, R2.y, R2.z, R2.t])))) 19 #[.pointer (some ⟨cb, 0, none⟩), .agg (Cv.bytesV rr), .agg (u64s (els [c1, c2, c3, c4]))] ?hk39 ?hc39 ?_
  case hk39 => (intro W; go_simp; try with_reducible rfl)
  case hc39 => (intro W hSW; exact (CM2.out cb W (aft_blk hSW Hcb.out)).mono (fun e w9 h9 => ⟨h9.1, h9.2, RL.Aft.lat hSW h9.2⟩))
  try go_frame
  refine' RL.tc 7 (v := (.agg (Cv.bytesV rp))) 21 #[.agg (u64s (els [R2.x, R2.y, R2.z, R2.t]))] ?hk40 ?hc40 ?_
  case hk40 => (intro W; go_simp; try with_reducible rfl)
  case hc40 => (intro W hSW; exact (CB2.out W).mono (fun e w9 h9 => ⟨h9.1, h9.2, RL.Aft.lat hSW h9.2⟩))
  try go_frame
  refine RL.sk 8 (fun wa hlwa hswa K hK => ?_)
  go_simp
  obtain ⟨hb, hhb⟩ : ∃ n, wa.heap.size = n := ⟨_, rfl⟩
  have hZ := Rg.Blk.newAt hhb.symm z32 22
  have Fhb := ϕ (show Z3.heap.size ≤ hb from hhb ▸ Below.size hswa)
  refine hK.out _ _ (RL.Aft.alloc hswa _) ?_
  try rw [hhb]
  clear hK hhb
  try go_frame
  refine RL.sk 9 (fun va hlva hsva K hK => ?_)
  have hZ := hZ.below hlva hZ.lt
  refine store_blk_op 22 _ _ rfl hb (Cv.bytesV rp) _ 22 rfl (by rfl) hZ (by rw [Cv.bytesV_size, HAL.out]; kernel_rfl) (by rw [Cv.bytesV_size, HAL.out]; rfl) (Cv.bytesV_one _) ?_
  intro Y9 hY hgY
  refine hK.out _ _ (Below.grown hsva hgY (Below.size hsva) (fun k hk => by cases hk; exact Fhb.out)) ?_
  clear hK
  try go_frame
  refine RL.done (by kernel_rfl) (fun Z4 hlZ4 hsZ4 => ?_)
  have Hhb := ϕ (show Rg.Blk Z4 hb 22 (Cv.bytesV rp) from hY.below hlZ4 hY.lt)
  clear hZ hY hgY hlva hsva
  have HA := ϕ (show RL.Aft Z3 Z4 from hsZ4)
  have Hrb := ϕ (aft_blk HA.out Hrb.out)
  have Htb := ϕ (aft_blk HA.out Htb.out)
  have Hkb := ϕ (aft_blk HA.out Hkb.out)
  have Hmb := ϕ (aft_blk HA.out Hmb.out)
  have HT := ϕ (HT.out.below HA.out HT.out.size)
  have HO := ϕ (HO.out.below HA.out HO.out.size)
  have HB := ϕ (HB.out.trans (Below.mono HA.out HB.out.size))
  clear HA hsZ4 hlZ4
  go_upto_region 5 with fail
  refine RL.start (RL.Aft Z4) (by kernel_rfl) (RL.Aft.drew (RL.Aft.refl Z4)) ?_
  refine' RL.tv 0 ?hk41 ?_
  case hk41 => (intro W hSW; go_simp; try with_reducible rfl)
  try go_frame
  refine' RL.tv 1 ?hk42 ?_
  case hk42 => (intro W hSW; have x1 := Cv.run_string_len (P := Tryz.prog) W 25 5 9 Tryz.underlying25 Tryz.underlying5 Tryz.underlying9 hb 0 32 32 rp HAL.out (Cv.Bytes.of_blk (aft_blk hSW Hhb.out)); go_simp; try with_reducible rfl)
  try go_frame
  refine' RL.tv 2 ?hk43 ?_
  case hk43 => (intro W hSW; go_simp; try with_reducible rfl)
  try go_frame
  refine' RL.tv 3 ?hk44 ?_
  case hk44 => (intro W hSW; have x1 := Cv.run_string_len (P := Tryz.prog) W 25 5 9 Tryz.underlying25 Tryz.underlying5 Tryz.underlying9 kb 0 32 32 ke HKL.out (Cv.Bytes.of_blk (aft_blk hSW Hkb.out)); go_simp; try with_reducible rfl)
  try go_frame
  refine' RL.tv 4 ?hk45 ?_
  case hk45 => (intro W hSW; go_simp; try with_reducible rfl)
  try go_frame
  refine' RL.tv 7 ?hk46 ?_
  case hk46 => (intro W hSW; go_simp; try with_reducible rfl)
  try go_frame
  refine RL.tw 8 (v := .agg (Cv.bytesV sa)) rfl (fun W hSW => run_at 22 _ rfl tb 0 rfl (Cv.bytesV sa) (fun j v hv => by rw [Nat.zero_add]; exact (aft_blk hSW Htb.out).cell j (secV_get hv)) Tryz.underlying22 rfl (by rw [Cv.bytesV_size, HSL.out]; kernel_rfl)) ?_
  try go_frame
  refine RL.tw 9 (v := .agg (Cv.bytesV rr)) rfl (fun W hSW => RT.run_row 22 _ rfl _ rfl _ _ (aft_blk hSW Hmb.out) Tryz.underlying22 rfl (by rw [Cv.bytesV_size, HRL.out]; kernel_rfl)) ?_
  try go_frame
  refine' RL.rest_of (T := ?TTq11) (fun gb xb W => RL.Aft Z4 W ∧ Rg.Blk W xb 22 z32 ∧ Z4.heap.size ≤ xb) ?hmainq11 ?hrrq11
  case hmainq11 =>
   intro hrest
   refine RL.step2 (i := 5) (j := 11) rfl rfl (by kernel_rfl) (by rfl) (by rfl) (fun y12 hly12 hsy12 K hK => ?_) (fun y12 hly12 hsy12 K hK => ?_)
   · refine RL.wp_made (v := .slice (some ⟨y12.heap.size, 0, none⟩) 3 3) (w' := y12.alloc (.cells #[.string ⟨rp.toArray⟩, .string ⟨ke.toArray⟩, .string (bs m)] 9)) (by go_simp; try rfl) ?_
     obtain ⟨gb, hgb⟩ : ∃ n, y12.heap.size = n := ⟨_, rfl⟩
     have hba : Below y12.heap.size y12 (y12.alloc (.cells #[.string ⟨rp.toArray⟩, .string ⟨ke.toArray⟩, .string (bs m)] 9)) := (Below.refl _ _).alloc (Nat.le_refl _) _
     have kgb : Rg.Blk (y12.alloc (.cells #[.string ⟨rp.toArray⟩, .string ⟨ke.toArray⟩, .string (bs m)] 9)) gb 9 #[.string ⟨rp.toArray⟩, .string ⟨ke.toArray⟩, .string (bs m)] := Rg.Blk.newAt hgb.symm _ _
     have ggb : Z4.heap.size ≤ gb := by rw [← hgb]; exact (show RL.Aft Z4 y12 from hsy12).size
     refine hK.out _ _ (RL.Aft.alloc hsy12 _) ?_
     try rw [hgb]
     have hSy12y : RL.Aft Z4 (y12.alloc (.cells #[.string ⟨rp.toArray⟩, .string ⟨ke.toArray⟩, .string (bs m)] 9)) := RL.Aft.alloc hsy12 _
     generalize hyy12 : y12.alloc (.cells #[.string ⟨rp.toArray⟩, .string ⟨ke.toArray⟩, .string (bs m)] 9) = y12y at *
     clear hgb hba hyy12
     clear hK
     try go_frame
     refine RL.step2 (i := 6) (j := 11) rfl rfl (by kernel_rfl) (by rfl) (by rfl) (fun y13 hly13 hsy13 K hK => ?_) (fun y13 hly13 hsy13 K hK => ?_)
     · have kgb := kgb.below hly13 kgb.lt
       refine RL.wp_enter (F := 28) (args := #[.slice (some ⟨gb, 0, none⟩) 3 3]) (by go_simp; try rfl) ?_
       refine (HR2.out y13 _ (HT.out.below hsy13 HT.out.size) (HO.out.below hsy13 HO.out.size) (parts_blk [_, _, _] kgb 3 rfl)).mono ?_
       rintro e y13x ⟨rfl, hb⟩
       have hSy13x : RL.Aft Z4 y13x := RL.Aft.lat hsy13 hb
       have kgb := kgb.below hb kgb.lt
       refine ⟨_, rfl, hK.out _ _ (RL.Aft.lat hsy13 hb) ?_⟩
       clear hK
       try go_frame
       refine' RL.tc 10 (v := (.agg (Cv.bytesV ss))) 29 #[.agg (Cv.bytesV kk), .agg (Cv.bytesV sa), .agg (Cv.bytesV rr)] ?hk47 ?hc47 ?_
       case hk47 => (intro W; go_simp; try with_reducible rfl)
       case hc47 => (intro W hSW; exact (CMA.out W (HO.out.below hSW HO.out.size)).mono (fun e w9 h9 => ⟨h9.1, h9.2, RL.Aft.lat hSW h9.2⟩))
       try go_frame
       refine RL.sk 11 (fun y14 hly14 hsy14 K hK => ?_)
       have kgb := kgb.below hly14 kgb.lt
       refine RL.wp_made (v := .pointer (some ⟨y14.heap.size, 0, none⟩)) (w' := y14.alloc (.cells z32 22)) (by go_simp; try rfl) ?_
       obtain ⟨xb, hxb⟩ : ∃ n, y14.heap.size = n := ⟨_, rfl⟩
       have hba : Below y14.heap.size y14 (y14.alloc (.cells z32 22)) := (Below.refl _ _).alloc (Nat.le_refl _) _
       have kxb : Rg.Blk (y14.alloc (.cells z32 22)) xb 22 z32 := Rg.Blk.newAt hxb.symm _ _
       have gxb : Z4.heap.size ≤ xb := by rw [← hxb]; exact (show RL.Aft Z4 y14 from hsy14).size
       have kgb := kgb.below hba kgb.lt
       refine hK.out _ _ (RL.Aft.alloc hsy14 _) ?_
       try rw [hxb]
       have hSy14y : RL.Aft Z4 (y14.alloc (.cells z32 22)) := RL.Aft.alloc hsy14 _
       generalize hyy14 : y14.alloc (.cells z32 22) = y14y at *
       clear hxb hba hyy14
       clear hK
       try go_frame
       refine RL.norm #[true, true, true, true, true, true, true, true, true, true, true, true, false] (by kernel_rfl) ?_
       exact hrest gb xb _ ⟨by assumption, kxb, gxb⟩
     · have kgb := kgb.below hly13 kgb.lt
       refine RL.wp_made (v := .pointer (some ⟨y13.heap.size, 0, none⟩)) (w' := y13.alloc (.cells z32 22)) (by go_simp; try rfl) ?_
       obtain ⟨xb, hxb⟩ : ∃ n, y13.heap.size = n := ⟨_, rfl⟩
       have hba : Below y13.heap.size y13 (y13.alloc (.cells z32 22)) := (Below.refl _ _).alloc (Nat.le_refl _) _
       have kxb : Rg.Blk (y13.alloc (.cells z32 22)) xb 22 z32 := Rg.Blk.newAt hxb.symm _ _
       have gxb : Z4.heap.size ≤ xb := by rw [← hxb]; exact (show RL.Aft Z4 y13 from hsy13).size
       have kgb := kgb.below hba kgb.lt
       refine hK.out _ _ (RL.Aft.alloc hsy13 _) ?_
       try rw [hxb]
       have hSy13y : RL.Aft Z4 (y13.alloc (.cells z32 22)) := RL.Aft.alloc hsy13 _
       generalize hyy13 : y13.alloc (.cells z32 22) = y13y at *
       clear hxb hba hyy13
       clear hK
       try go_frame
       refine RL.sk 6 (fun y15 hly15 hsy15 K hK => ?_)
       have kgb := kgb.below hly15 kgb.lt
       have kxb := kxb.below hly15 kxb.lt
       refine RL.wp_enter (F := 28) (args := #[.slice (some ⟨gb, 0, none⟩) 3 3]) (by go_simp; try rfl) ?_
       refine (HR2.out y15 _ (HT.out.below hsy15 HT.out.size) (HO.out.below hsy15 HO.out.size) (parts_blk [_, _, _] kgb 3 rfl)).mono ?_
       rintro e y15x ⟨rfl, hb⟩
       have hSy15x : RL.Aft Z4 y15x := RL.Aft.lat hsy15 hb
       have kgb := kgb.below hb kgb.lt
       have kxb := kxb.below hb kxb.lt
       refine ⟨_, rfl, hK.out _ _ (RL.Aft.lat hsy15 hb) ?_⟩
       clear hK
       try go_frame
       refine' RL.tc 10 (v := (.agg (Cv.bytesV ss))) 29 #[.agg (Cv.bytesV kk), .agg (Cv.bytesV sa), .agg (Cv.bytesV rr)] ?hk48 ?hc48 ?_
       case hk48 => (intro W; go_simp; try with_reducible rfl)
       case hc48 => (intro W hSW; exact (CMA.out W (HO.out.below hSW HO.out.size)).mono (fun e w9 h9 => ⟨h9.1, h9.2, RL.Aft.lat hSW h9.2⟩))
       try go_frame
       refine RL.norm #[true, true, true, true, true, true, true, true, true, true, true, true, false] (by kernel_rfl) ?_
       exact hrest gb xb _ ⟨by assumption, kxb, gxb⟩
   · refine RL.wp_made (v := .pointer (some ⟨y12.heap.size, 0, none⟩)) (w' := y12.alloc (.cells z32 22)) (by go_simp; try rfl) ?_
     obtain ⟨xb, hxb⟩ : ∃ n, y12.heap.size = n := ⟨_, rfl⟩
     have hba : Below y12.heap.size y12 (y12.alloc (.cells z32 22)) := (Below.refl _ _).alloc (Nat.le_refl _) _
     have kxb : Rg.Blk (y12.alloc (.cells z32 22)) xb 22 z32 := Rg.Blk.newAt hxb.symm _ _
     have gxb : Z4.heap.size ≤ xb := by rw [← hxb]; exact (show RL.Aft Z4 y12 from hsy12).size
     refine hK.out _ _ (RL.Aft.alloc hsy12 _) ?_
     try rw [hxb]
     have hSy12y : RL.Aft Z4 (y12.alloc (.cells z32 22)) := RL.Aft.alloc hsy12 _
     generalize hyy12 : y12.alloc (.cells z32 22) = y12y at *
     clear hxb hba hyy12
     clear hK
     try go_frame
     refine RL.sk 5 (fun y16 hly16 hsy16 K hK => ?_)
     have kxb := kxb.below hly16 kxb.lt
     refine RL.wp_made (v := .slice (some ⟨y16.heap.size, 0, none⟩) 3 3) (w' := y16.alloc (.cells #[.string ⟨rp.toArray⟩, .string ⟨ke.toArray⟩, .string (bs m)] 9)) (by go_simp; try rfl) ?_
     obtain ⟨gb, hgb⟩ : ∃ n, y16.heap.size = n := ⟨_, rfl⟩
     have hba : Below y16.heap.size y16 (y16.alloc (.cells #[.string ⟨rp.toArray⟩, .string ⟨ke.toArray⟩, .string (bs m)] 9)) := (Below.refl _ _).alloc (Nat.le_refl _) _
     have kgb : Rg.Blk (y16.alloc (.cells #[.string ⟨rp.toArray⟩, .string ⟨ke.toArray⟩, .string (bs m)] 9)) gb 9 #[.string ⟨rp.toArray⟩, .string ⟨ke.toArray⟩, .string (bs m)] := Rg.Blk.newAt hgb.symm _ _
     have ggb : Z4.heap.size ≤ gb := by rw [← hgb]; exact (show RL.Aft Z4 y16 from hsy16).size
     have kxb := kxb.below hba kxb.lt
     refine hK.out _ _ (RL.Aft.alloc hsy16 _) ?_
     try rw [hgb]
     have hSy16y : RL.Aft Z4 (y16.alloc (.cells #[.string ⟨rp.toArray⟩, .string ⟨ke.toArray⟩, .string (bs m)] 9)) := RL.Aft.alloc hsy16 _
     generalize hyy16 : y16.alloc (.cells #[.string ⟨rp.toArray⟩, .string ⟨ke.toArray⟩, .string (bs m)] 9) = y16y at *
     clear hgb hba hyy16
     clear hK
     try go_frame
     refine RL.sk 6 (fun y17 hly17 hsy17 K hK => ?_)
     have kxb := kxb.below hly17 kxb.lt
     have kgb := kgb.below hly17 kgb.lt
     refine RL.wp_enter (F := 28) (args := #[.slice (some ⟨gb, 0, none⟩) 3 3]) (by go_simp; try rfl) ?_
     refine (HR2.out y17 _ (HT.out.below hsy17 HT.out.size) (HO.out.below hsy17 HO.out.size) (parts_blk [_, _, _] kgb 3 rfl)).mono ?_
     rintro e y17x ⟨rfl, hb⟩
     have hSy17x : RL.Aft Z4 y17x := RL.Aft.lat hsy17 hb
     have kxb := kxb.below hb kxb.lt
     have kgb := kgb.below hb kgb.lt
     refine ⟨_, rfl, hK.out _ _ (RL.Aft.lat hsy17 hb) ?_⟩
     clear hK
     try go_frame
     refine' RL.tc 10 (v := (.agg (Cv.bytesV ss))) 29 #[.agg (Cv.bytesV kk), .agg (Cv.bytesV sa), .agg (Cv.bytesV rr)] ?hk49 ?hc49 ?_
     case hk49 => (intro W; go_simp; try with_reducible rfl)
     case hc49 => (intro W hSW; exact (CMA.out W (HO.out.below hSW HO.out.size)).mono (fun e w9 h9 => ⟨h9.1, h9.2, RL.Aft.lat hSW h9.2⟩))
     try go_frame
     refine RL.norm #[true, true, true, true, true, true, true, true, true, true, true, true, false] (by kernel_rfl) ?_
     exact hrest gb xb _ ⟨by assumption, kxb, gxb⟩
  case hrrq11 =>
   rintro gb xb Z0 ⟨ha0, hZ, gxb⟩
   have Fxb := ϕ gxb
   refine RL.sk 12 (fun va hlva hsva K hK => ?_)
   have hZ := hZ.below hlva hZ.lt
   refine store_blk_op 22 _ _ rfl xb (Cv.bytesV ss) _ 22 rfl (by rfl) hZ (by rw [Cv.bytesV_size, HSS.out]; kernel_rfl) (by rw [Cv.bytesV_size, HSS.out]; rfl) (Cv.bytesV_one _) ?_
   intro Y9 hY hgY
   refine hK.out _ _ (Below.grown hsva hgY (Below.size hsva) (fun k hk => by cases hk; exact Fxb.out)) ?_
   clear hK
   try go_frame
   refine RL.done (by kernel_rfl) (fun Z5 hlZ5 hsZ5 => ?_)
   have Hxb := ϕ (show Rg.Blk Z5 xb 22 (Cv.bytesV ss) from hY.below hlZ5 hY.lt)
   clear hZ hY hgY hlva hsva
   have HA := ϕ (show RL.Aft Z4 Z5 from hsZ5)
   have Hrb := ϕ (aft_blk HA.out Hrb.out)
   have Hhb := ϕ (aft_blk HA.out Hhb.out)
   have HB := ϕ (HB.out.trans (Below.mono HA.out HB.out.size))
   clear HA hsZ5 hlZ5
   go_upto_region 7 with fail
   obtain ⟨ob, hob⟩ : ∃ n, Z5.heap.size = n := ⟨_, rfl⟩
   obtain ⟨Z6, hZ6⟩ : ∃ Z, (Z5.alloc (.cells #[.int .u8 0, .int .u8 0, .int .u8 0, .int .u8 0, .int .u8 0, .int .u8 0, .int .u8 0, .int .u8 0, .int .u8 0, .int .u8 0, .int .u8 0, .int .u8 0, .int .u8 0, .int .u8 0, .int .u8 0, .int .u8 0, .int .u8 0, .int .u8 0, .int .u8 0, .int .u8 0, .int .u8 0, .int .u8 0, .int .u8 0, .int .u8 0, .int .u8 0, .int .u8 0, .int .u8 0, .int .u8 0, .int .u8 0, .int .u8 0, .int .u8 0, .int .u8 0, .int .u8 0, .int .u8 0, .int .u8 0, .int .u8 0, .int .u8 0, .int .u8 0, .int .u8 0, .int .u8 0, .int .u8 0, .int .u8 0, .int .u8 0, .int .u8 0, .int .u8 0, .int .u8 0, .int .u8 0, .int .u8 0, .int .u8 0, .int .u8 0, .int .u8 0, .int .u8 0, .int .u8 0, .int .u8 0, .int .u8 0, .int .u8 0, .int .u8 0, .int .u8 0, .int .u8 0, .int .u8 0, .int .u8 0, .int .u8 0, .int .u8 0, .int .u8 0] 29)) = Z := ⟨_, rfl⟩
   have Hob := ϕ (show Rg.Blk Z6 ob 29 (Cv.bytesV (List.replicate 64 0)) from by rw [z64b, ← hZ6]; exact Rg.Blk.newAt hob.symm _ _)
   have GO := ϕ (show w.heap.size ≤ ob from hob ▸ HB.out.size)
   have NN := ϕ (show ¬ rb = ob ∧ ¬ hb = ob ∧ ¬ xb = ob from by have h1 := Hrb.out.lt; have h2 := Hhb.out.lt; have h3 := Hxb.out.lt; omega)
   have hba : Below Z5.heap.size Z5 Z6 := by rw [← hZ6]; exact (Below.refl _ _).alloc (Nat.le_refl _) _
   have Hrb := ϕ (Hrb.out.below hba Hrb.out.lt)
   have Hhb := ϕ (Hhb.out.below hba Hhb.out.lt)
   have Hxb := ϕ (Hxb.out.below hba Hxb.out.lt)
   have HB := tm HB hba
   rw [hZ6]
   try rw [hob]
   clear hob HT HO Hcb Htb Hkb Hmb hba hZ6
   refine RL.start (fun W => Sp.Upd Z6 W [ob]) (by kernel_rfl) (Sp.Upd.trans (Sp.Upd.refl _ _) (Sp.Upd.of_below (Below.drew (Below.refl _ _))) (by simp)) ?_
   refine' RL.tv 0 ?hk50 ?_
   case hk50 => (intro W hSW; go_simp; try with_reducible rfl)
   try go_frame
   refine' RL.tv 1 ?hk51 ?_
   case hk51 => (intro W hSW; go_simp; try with_reducible rfl)
   try go_frame
   refine RL.sk 2 (fun va hlva hsva K hK => ?_)
   have hO := (Hob.out.below (Below.drew (Below.refl _ _)) Hob.out.lt).below hlva (by have := Hob.out.lt; simpa using this)
   have hS := upd_blk hsva Hhb.out (by simp; exact NN.out.2.1)
   refine copy_op _ _ 25 25 5 rfl (off := 0) rfl rfl Tryz.underlying25 (by kernel_rfl) hO (src := rp) (Cv.Bytes.of_blk hS) (by rw [HAL.out]; rfl) (by rw [HAL.out]; simp [HAL.out]) ?_
   intro Y9 v9 hY hgY
   refine hK.out _ _ (Sp.Upd.trans hsva (Sp.Upd.of_grown1 hgY) (fun q hq => .inl hq)) ?_
   clear hK
   try go_frame
   refine RL.done (by kernel_rfl) (fun Z7 hlZ7 hsZ7 => ?_)
   have Hob := ϕ (show Rg.Blk Z7 ob 29 (Cv.bytesV (rp ++ List.replicate 32 0)) from EQ1.out ▸ hY.below hlZ7 hY.lt)
   have Hrb := ϕ (upd_blk hsZ7 Hrb.out (by simp; exact NN.out.1))
   have Hxb := ϕ (upd_blk hsZ7 Hxb.out (by simp; exact NN.out.2.2))
   have HB := ϕ (below_upd HB.out hsZ7 (fun k hk => by simp at hk; rw [hk]; exact GO.out) HB.out.size)
   clear hO hS hY hgY hlva hsva hsZ7 hlZ7
   go_upto_region 8 with fail
   refine RL.start (fun W => Sp.Upd Z7 W [ob]) (by kernel_rfl) (Sp.Upd.trans (Sp.Upd.refl _ _) (Sp.Upd.of_below (Below.drew (Below.refl _ _))) (by simp)) ?_
   refine' RL.tv 0 ?hk52 ?_
   case hk52 => (intro W hSW; go_simp; try with_reducible rfl)
   try go_frame
   refine' RL.tv 1 ?hk53 ?_
   case hk53 => (intro W hSW; go_simp; try with_reducible rfl)
   try go_frame
   refine RL.sk 2 (fun va hlva hsva K hK => ?_)
   have hO := (Hob.out.below (Below.drew (Below.refl _ _)) Hob.out.lt).below hlva (by have := Hob.out.lt; simpa using this)
   have hS := upd_blk hsva Hxb.out (by simp; exact NN.out.2.2)
   refine copy_op _ _ 25 25 5 rfl (off := 32) rfl rfl Tryz.underlying25 (by kernel_rfl) hO (src := ss) (Cv.Bytes.of_blk hS) (by rw [HSS.out]; rfl) (by rw [HSS.out]; simp [HAL.out]) ?_
   intro Y9 v9 hY hgY
   refine hK.out _ _ (Sp.Upd.trans hsva (Sp.Upd.of_grown1 hgY) (fun q hq => .inl hq)) ?_
   clear hK
   try go_frame
   refine RL.done (by kernel_rfl) (fun Z8 hlZ8 hsZ8 => ?_)
   have Hob := ϕ (show Rg.Blk Z8 ob 29 (Cv.bytesV (rp ++ ss)) from EQ2.out ▸ hY.below hlZ8 hY.lt)
   have Hrb := ϕ (upd_blk hsZ8 Hrb.out (by simp; exact NN.out.1))
   have HB := ϕ (below_upd HB.out hsZ8 (fun k hk => by simp at hk; rw [hk]; exact GO.out) HB.out.size)
   clear hO hS hY hgY hlva hsva hsZ8 hlZ8
   go_wp2_with (first
    | ((with_reducible refine gate_ ?_); refine Cv.load_cells rfl 29 _ rfl ob 0 rfl (Cv.bytesV (rp ++ ss)) _ (fun j v hv => by rw [Nat.zero_add]; exact Hob.out.cell j hv) Tryz.underlying29 rfl (by rw [Cv.bytesV_size, HGL.out]; kernel_rfl) ?_)
    | ((with_reducible refine gate_ ?_); refine Cv.store_blk rfl 29 _ _ rfl rb (Cv.bytesV (rp ++ ss)) (#[.int .u8 0, .int .u8 0, .int .u8 0, .int .u8 0, .int .u8 0, .int .u8 0, .int .u8 0, .int .u8 0, .int .u8 0, .int .u8 0, .int .u8 0, .int .u8 0, .int .u8 0, .int .u8 0, .int .u8 0, .int .u8 0, .int .u8 0, .int .u8 0, .int .u8 0, .int .u8 0, .int .u8 0, .int .u8 0, .int .u8 0, .int .u8 0, .int .u8 0, .int .u8 0, .int .u8 0, .int .u8 0, .int .u8 0, .int .u8 0, .int .u8 0, .int .u8 0, .int .u8 0, .int .u8 0, .int .u8 0, .int .u8 0, .int .u8 0, .int .u8 0, .int .u8 0, .int .u8 0, .int .u8 0, .int .u8 0, .int .u8 0, .int .u8 0, .int .u8 0, .int .u8 0, .int .u8 0, .int .u8 0, .int .u8 0, .int .u8 0, .int .u8 0, .int .u8 0, .int .u8 0, .int .u8 0, .int .u8 0, .int .u8 0, .int .u8 0, .int .u8 0, .int .u8 0, .int .u8 0, .int .u8 0, .int .u8 0, .int .u8 0, .int .u8 0] : Array Value) 29 rfl rfl Hrb.out (by rw [Cv.bytesV_size, HGL.out]; kernel_rfl) (by rw [Cv.bytesV_size, HGL.out]; rfl) (Cv.bytesV_one _) ?_; intro V hV hgV; have HZ2 := ϕ hV; have HB2 := ϕ (HB.out.grown hgV HB.out.size (fun j e => by cases e; exact GR.out)); clear hV hgV))
   rw [HRES.out]
   refine bodyPost_ret (v := .agg (Cv.bytesV (rp ++ ss)))
    (results_cell_row Tryz.results12 _ _ rb 29 _ (0, 0) _ rfl HZ2.out Tryz.underlying29 rfl (by rw [Cv.bytesV_size, HGL.out]; kernel_rfl)) rfl ?_
   exact ⟨rfl, HB2.out⟩
theorem wpList_wanted {P : Program} {ops : Array Oper} {rest : List Oper} {o : Oper} {a : Act} {w : World} {Q : Exit → Act → World → Prop} (hw : Region.wanted o (yielded ops a.tmps) = true)
 (h : ∀ K : Act → World → Prop, (∀ a w, wpList P ops Q rest a w → K a w) → o.wp P a w K Q) : wpList P ops Q (o :: rest) a w :=
 wpList_step fun K hK => by rw [if_pos hw]; exact h K hK
theorem load_blk_g {P : Program} {ops : Array Oper} {rest : List Oper} {o : Oper} {a : Act} {w : World} {Q : Exit → Act → World → Prop} (hw : Region.wanted o (yielded ops a.tmps) = true) (ty : TypeId) (x : Operand) (ho : o.op = .load ty x)
 (b : Nat) (cs : Array Value) (T : TypeId) (hx : a.eval x = .pointer (some ⟨b, 0, none⟩)) (hB : Rg.Blk w b T cs) {d : TypeDesc} (hu : P.underlying ty = some d) (hd : (match d with | .struct _ | .array _ _ => true | _ => false) = true) (hi : (P.info? ty).map (·.size) = some cs.size)
 (h : wpList P ops Q rest (a.put o.dst (.agg cs)) w) : wpList P ops Q (o :: rest) a w :=
 wpList_wanted hw fun _ hK => by
  unfold Oper.wp
  rw [RT.run_row ty x ho b hx T cs hB hu hd hi]
  exact hK _ _ h
theorem wpList_unwanted {P : Program} {ops : Array Oper} {rest : List Oper} {o : Oper} {a : Act} {w : World} {Q : Exit → Act → World → Prop} (hw : Region.wanted o (yielded ops a.tmps) = false)
 (h : wpList P ops Q rest (a.put o.dst undef) w) : wpList P ops Q (o :: rest) a w :=
 wpList_step fun K hK => by rw [if_neg (by rw [hw]; decide)]; exact hK _ _ h
theorem dec_beq (a b : List UInt8) : decide (a = b) = (a == b) := by
 by_cases h : a = b
 · rw [decide_eq_true h, beq_iff_eq.2 h]
 · rw [decide_eq_false h, beq_eq_false_iff_ne.2 h]
theorem run_arr {P : Program} {o : Oper} {a : Act} {w : World} (arr e : TypeId) (n : Nat) (x : Operand) (ho : o.op = .sliceToArrayPointer arr x) (b off len cap : Nat) (hx : a.eval x = .slice (some ⟨b, off, none⟩) len cap) (hu : P.underlying arr = some (.array n e)) (hl : n ≤ len) : (execOp a.eval o).run P w = .ok (.value (.pointer (some ⟨b, off, none⟩))) w := by
 unfold execOp
 simp only [ho, hx]
 unfold Instr.arrayAt
 simp only [Sem.run_bind, run_underlying hu w, Result.andThen_ok, if_neg (show ¬ len < n by omega), Sem.run_pure]
theorem front_of {w : World} {b T : Nat} {r s : List UInt8} (h : Rg.Blk w b T (Cv.bytesV (r ++ s))) (hr : r.length = 32) : Cv.Bytes w b 0 r := by
 have := bytes_front h 32
 rwa [List.take_append_of_le_length (by omega), List.take_of_length_le (by omega)] at this
theorem back_of {w : World} {b T : Nat} {r s : List UInt8} (h : Rg.Blk w b T (Cv.bytesV (r ++ s))) (hr : r.length = 32) : Cv.Bytes w b 32 s := by
 have := bytes_back h 32
 rwa [← hr, List.drop_left, hr] at this
theorem ver_no (w : World) (key m r s : List UInt8) (hk : key.length = 32) (hr : r.length = 32) (hs : s.length = 32) (hd : dec key = none) (hT : Sha.Tables w) (hO : Ord w) : Calls Tryz.prog 14 #[.agg (Cv.bytesV key), .string (bs m), .agg (Cv.bytesV (r ++ s))] w fun e w' => e = .returned (.bool (ver key m r s)) ∧ Below w.heap.size w w' := by
 obtain ⟨cd, ct, c1, c2, c3, c4, ecd, ect, hrq, cbeg⟩ := begin_e
 have CBE := ϕ cbeg
 obtain ⟨B0, hB0⟩ : ∃ R : E4, (⟨c1, c2, c3, c4⟩ : E4) = R := ⟨_, rfl⟩
 have hrB : Rq4 base B0 := hB0 ▸ hrq
 have HV := ϕ (ver_none (m := m) (r := r) (s := s) hd)
 obtain ⟨R0, ok, hok, crd⟩ := read_q (cd := cd) (ct := ct) (c1 := c1) (c2 := c2) (c3 := c3) (c4 := c4) ecd key hk
 obtain rfl : ok = false := by
  rcases hok with ⟨h1, p, h2, _⟩ | ⟨h1, h2⟩
  · rw [hd] at h2; exact none_no h2
  · exact h1
 have CRD := ϕ crd
 have HT := ϕ hT
 have HO := ϕ hO
 have HKL := ϕ hk
 have HRL := ϕ hr
 have HSL := ϕ hs
 clear hok crd hk hr hs hd hT hO ecd ect hrq cbeg hB0 hrB
 go_enter Tryz.func14, Tryz.ntmps14
 have tb0 := True.intro
 go_upto_region 1 with (first
  | (have _t := tb0; (with_reducible refine gate_ ?_); refine Rg.box_fresh rfl 22 _ rfl (Cv.bytesV key) rfl ?_; intro X1 hX hbX hnX; have J0 := ϕ hX; have K0 := ϕ hbX; clear hX hbX hnX _t tb0; have tb1 := True.intro)
  | (have _t := tb1; (with_reducible refine gate_ ?_); refine Rg.box_fresh rfl 29 _ rfl (Cv.bytesV (r ++ s)) rfl ?_; intro X2 hX hbX hnX; have J1 := ϕ hX; have K1 := ϕ hbX; clear hX hbX hnX _t tb1; have tb2 := True.intro))
 clear tb2
 obtain ⟨kb, hkb⟩ : ∃ n, w.heap.size = n := ⟨_, rfl⟩
 obtain ⟨gb, hgb⟩ : ∃ n, X1.heap.size = n := ⟨_, rfl⟩
 have Hkb := ϕ (show Rg.Blk X2 kb 22 (Cv.bytesV key) from (hkb ▸ J0.out).below K1.out (hkb ▸ J0.out.lt))
 have Hgb := ϕ (show Rg.Blk X2 gb 29 (Cv.bytesV (r ++ s)) from hgb ▸ J1.out)
 have HB := ϕ (show Below w.heap.size w X2 from K0.out.trans (K1.out.mono K0.out.size))
 have HW := ϕ hkb
 try rw [hkb]
 try rw [hgb]
 clear J0 J1 K0 K1 hkb hgb
 go_upto_region 2 with (go_at_call 18; refine (CBE.out _).mono ?_; rintro e w1 ⟨⟨cb, hcb, rfl, hcv⟩, hb1⟩; have Hcb := ϕ (show Rg.Blk w1 cb 57 (u64s (els [cd, ct, c1, c2, c3, c4])) from hcv); have Hkb := ϕ (Hkb.out.below hb1 Hkb.out.lt); have Hgb := ϕ (Hgb.out.below hb1 Hgb.out.lt); have HB := tm HB hb1; clear hb1 hcv hcb)
 go_upto_region 3 with (first
  | ((with_reducible refine gate_ ?_); refine Cv.load_cells rfl 22 _ rfl kb 0 rfl (Cv.bytesV key) _ (fun j v hv => by rw [Nat.zero_add]; exact Rg.Blk.cell Hkb.out j hv) Tryz.underlying22 rfl (by rw [Cv.bytesV_size, HKL.out]; kernel_rfl) ?_)
  | (go_at_call 27; refine (CRD.out cb _ Hcb.out).mono ?_; rintro e w2 ⟨rfl, hb1⟩; have Hgb := ϕ (Hgb.out.below hb1 Hgb.out.lt); have HB := tm HB hb1; clear hb1)
  | (refine Rg.store_fresh rfl 51 _ _ rfl (u64s (els [R0.x, R0.y, R0.z, R0.t])) _ 51 rfl rfl (by kernel_rfl) rfl (els_all _) ?_; intro X3 hX hbX; have Hpb := ϕ hX; have Hgb := ϕ (Hgb.out.below hbX Hgb.out.lt); have HB := tm HB hbX; clear hX hbX))
 obtain ⟨pb, hpb⟩ : ∃ n, w2.heap.size = n := ⟨_, rfl⟩
 try rw [hpb]
 clear hpb
 go_upto_region 4 with (first
  | ((with_reducible refine gate_ ?_); refine Cv.slice_to_array rfl 22 5 32 _ rfl _ _ _ _ rfl Tryz.underlying22 (by decide) ?_; skip)
  | ((with_reducible refine gate_ ?_); refine Cv.load_cells rfl 22 _ rfl gb 32 rfl (Cv.bytesV s) _ (Cv.Bytes.cells (back_of Hgb.out HRL.out)) Tryz.underlying22 rfl (by rw [Cv.bytesV_size, HSL.out]; kernel_rfl) ?_)
  | (refine Rg.store_fresh rfl 22 _ _ rfl (Cv.bytesV s) _ 22 rfl rfl (by rw [Cv.bytesV_size, HSL.out]; kernel_rfl) (by rw [Cv.bytesV_size, HSL.out]; rfl) (Cv.bytesV_one _) ?_; intro X4 hX hbX; have Hxb := ϕ hX; have HB := tm HB hbX; clear hX hbX))
 obtain ⟨xb, hxb⟩ : ∃ n, X3.heap.size = n := ⟨_, rfl⟩
 try rw [hxb]
 clear hxb
 go_wp2_with (first
  | (refine wpList_unwanted (by rfl) ?_; skip))
 go_ret
 exact ⟨by rw [HV.out]; rfl, HW.out ▸ HB.out⟩
theorem ver_yes (w : World) (key m r s : List UInt8) (hk : key.length = 32) (hm : m.length ≤ 10000) (hr : r.length = 32) (hs : s.length = 32) {A : Pt} (hd : dec key = some A) (hT : Sha.Tables w) (hO : Ord w) : Calls Tryz.prog 14 #[.agg (Cv.bytesV key), .string (bs m), .agg (Cv.bytesV (r ++ s))] w fun e w' => e = .returned (.bool (ver key m r s)) ∧ Below w.heap.size w w' := by
 obtain ⟨cd, ct, c1, c2, c3, c4, ecd, ect, hrq, cbeg⟩ := begin_e
 have CBE := ϕ cbeg
 obtain ⟨B0, hB0⟩ : ∃ R : E4, (⟨c1, c2, c3, c4⟩ : E4) = R := ⟨_, rfl⟩
 have hrB : Rq4 base B0 := hB0 ▸ hrq
 obtain ⟨R0, ok, hok, crd⟩ := read_q (cd := cd) (ct := ct) (c1 := c1) (c2 := c2) (c3 := c3) (c4 := c4) ecd key hk
 have hor : ok = true ∧ Rq4 A R0 := by
  rcases hok with ⟨h1, p, h2, h3⟩ | ⟨h1, h2⟩
  · rw [hd] at h2
    exact ⟨h1, some_eq (P := fun q => Rq4 q R0) h2.symm h3⟩
  · rw [hd] at h2; exact none_no h2.symm
 obtain ⟨rfl, hRA⟩ := hor
 obtain ⟨nx, nt, hN, cne⟩ := neg_q hRA
 obtain ⟨N0, hN0⟩ : ∃ R : E4, (⟨nx, R0.y, R0.z, nt⟩ : E4) = R := ⟨_, rfl⟩
 have hN4 : Rq4 A.neg N0 := hN0 ▸ hN
 have CNE := ϕ (show ∀ W : World, Calls Tryz.prog 35 #[.agg (u64s (els [R0.x, R0.y, R0.z, R0.t]))] W fun e w' => e = .returned (.agg (u64s (els [N0.x, N0.y, N0.z, N0.t]))) ∧ Below W.heap.size W w' from hN0 ▸ cne)
 obtain ⟨kk, hkk⟩ : ∃ l, toLe 32 (red (r ++ key ++ m)) = l := ⟨_, rfl⟩
 have hkkl : kk.length = 32 := by rw [← hkk, toLe_len]
 have hkn : leN kk = red (r ++ key ++ m) := by rw [← hkk]; exact leN_l (red_lt _)
 obtain ⟨R1, hR1, cm1⟩ := mult_q (cd := cd) (ct := ct) (c1 := c1) (c2 := c2) (c3 := c3) (c4 := c4) ect hrB s hs
 obtain ⟨R2, hR2, cm2⟩ := mult_q (cd := cd) (ct := ct) (c1 := c1) (c2 := c2) (c3 := c3) (c4 := c4) ect hN4 kk hkkl
 obtain ⟨D0, hD0, cad⟩ := adds (cd := cd) (ct := ct) (c1 := c1) (c2 := c2) (c3 := c3) (c4 := c4) ect hR1 hR2
 have cby := bytes_q hD0
 obtain ⟨be, hbe⟩ : ∃ e, enc ((Pt.mul (leN s) base).add (Pt.mul (leN kk) A.neg)) = e := ⟨_, rfl⟩
 rw [hbe] at cby
 rw [hkn] at hbe
 have HBL := ϕ (show be.length = 32 from by rw [← hbe]; exact enc_len _)
 obtain ⟨eb, heb⟩ : ∃ b, (be == r) = b := ⟨_, rfl⟩
 obtain ⟨fb, hfb⟩ : ∃ b, decide (leN s < Ed.L) = b := ⟨_, rfl⟩
 have HVV := ϕ (show ver key m r s = (fb && eb) from by
  rw [ver_some hd, hbe, hfb, dec_beq, heb])
 have HR2 := ϕ (fun W v (hT : Sha.Tables W) (hO : Ord W) (hv : Jo.Parts W v [⟨r.toArray⟩, ⟨key.toArray⟩, bs m]) => show Calls Tryz.prog 28 #[v] W fun e w' => e = .returned (.agg (Cv.bytesV kk)) ∧ Below W.heap.size W w' from by
  have h := reduce_l W v _ (r ++ key ++ m) (by rw [Jo.joined_list]; simp [bs_list]) (by rw [List.length_append, List.length_append]; omega) (by simp) hT hO hv
  rw [← hkk]
  exact h)
 have CFI := ϕ (fun W (hO : Ord W) => show Calls Tryz.prog 33 #[.agg (Cv.bytesV s)] W fun e w' => e = .returned (.bool fb) ∧ Below W.heap.size W w' from hfb ▸ Fits_any W s hs hO)
 have HEQ := ϕ (show ∀ W : World, (Op.equalIn 10000 22 (.agg (Cv.bytesV be)) (.agg (Cv.bytesV r))).run Tryz.prog W = .ok eb W from fun W => heb ▸ Cv.run_equalIn_bytes (P := Tryz.prog) W 22 5 32 Tryz.underlying22 Tryz.underlying5 (by kernel_rfl) be r HBL.out hr)
 have CRD := ϕ crd
 have CM1 := ϕ (hB0 ▸ cm1)
 have CM2 := ϕ cm2
 have CAD := ϕ cad
 have CBY := ϕ cby
 have HKK := ϕ hkkl
 have HT := ϕ hT
 have HO := ϕ hO
 have HKL := ϕ hk
 have HRL := ϕ hr
 have HSL := ϕ hs
 rw [HVV.out]
 clear hok crd hk hr hs hd hT hO ecd ect hrq cbeg hB0 hrB hRA hN cne hN0 hN4 hkk hkkl hkn hR1 cm1 hR2 cm2 hD0 cad cby hbe heb hfb hm
 go_enter Tryz.func14, Tryz.ntmps14
 have tb0 := True.intro
 go_upto_region 1 with (first
  | (have _t := tb0; (with_reducible refine gate_ ?_); refine Rg.box_fresh rfl 22 _ rfl (Cv.bytesV key) rfl ?_; intro X1 hX hbX hnX; have J0 := ϕ hX; have K0 := ϕ hbX; clear hX hbX hnX _t tb0; have tb1 := True.intro)
  | (have _t := tb1; (with_reducible refine gate_ ?_); refine Rg.box_fresh rfl 29 _ rfl (Cv.bytesV (r ++ s)) rfl ?_; intro X2 hX hbX hnX; have J1 := ϕ hX; have K1 := ϕ hbX; clear hX hbX hnX _t tb1; have tb2 := True.intro))
 clear tb2
 obtain ⟨kb, hkb⟩ : ∃ n, w.heap.size = n := ⟨_, rfl⟩
 obtain ⟨gb, hgb⟩ : ∃ n, X1.heap.size = n := ⟨_, rfl⟩
 have Hkb := ϕ (show Rg.Blk X2 kb 22 (Cv.bytesV key) from (hkb ▸ J0.out).below K1.out (hkb ▸ J0.out.lt))
 have Hgb := ϕ (show Rg.Blk X2 gb 29 (Cv.bytesV (r ++ s)) from hgb ▸ J1.out)
 have HB := ϕ (show Below w.heap.size w X2 from K0.out.trans (K1.out.mono K0.out.size))
 have HT := ϕ (HT.out.below HB.out HT.out.size)
 have HO := ϕ (HO.out.below HB.out HO.out.size)
 have HW := ϕ hkb
 try rw [hkb]
 try rw [hgb]
 clear J0 J1 K0 K1 hkb hgb
 go_upto_region 2 with (go_at_call 18; refine (CBE.out _).mono ?_; rintro e w1 ⟨⟨cb, hcb, rfl, hcv⟩, hb1⟩; have Hcb := ϕ (show Rg.Blk w1 cb 57 (u64s (els [cd, ct, c1, c2, c3, c4])) from hcv); have Hkb := ϕ (Hkb.out.below hb1 Hkb.out.lt); have Hgb := ϕ (Hgb.out.below hb1 Hgb.out.lt); have HT := ϕ (HT.out.below hb1 HT.out.size); have HO := ϕ (HO.out.below hb1 HO.out.size); have HB := tm HB hb1; clear hb1 hcv hcb)
 go_upto_region 3 with (first
  | ((with_reducible refine gate_ ?_); refine Cv.load_cells rfl 22 _ rfl kb 0 rfl (Cv.bytesV key) _ (fun j v hv => by rw [Nat.zero_add]; exact Rg.Blk.cell Hkb.out j hv) Tryz.underlying22 rfl (by rw [Cv.bytesV_size, HKL.out]; kernel_rfl) ?_)
  | (go_at_call 27; refine (CRD.out cb _ Hcb.out).mono ?_; rintro e w2 ⟨rfl, hb1⟩; have Hkb := ϕ (Hkb.out.below hb1 Hkb.out.lt); have Hgb := ϕ (Hgb.out.below hb1 Hgb.out.lt); have Hcb := ϕ (Hcb.out.below hb1 Hcb.out.lt); have HT := ϕ (HT.out.below hb1 HT.out.size); have HO := ϕ (HO.out.below hb1 HO.out.size); have HB := tm HB hb1; clear hb1)
  | (refine Rg.store_fresh rfl 51 _ _ rfl (u64s (els [R0.x, R0.y, R0.z, R0.t])) _ 51 rfl rfl (by kernel_rfl) rfl (els_all _) ?_; intro X3 hX hbX; have Hpb := ϕ hX; have Hkb := ϕ (Hkb.out.below hbX Hkb.out.lt); have Hgb := ϕ (Hgb.out.below hbX Hgb.out.lt); have Hcb := ϕ (Hcb.out.below hbX Hcb.out.lt); have HT := ϕ (HT.out.below hbX HT.out.size); have HO := ϕ (HO.out.below hbX HO.out.size); have HB := tm HB hbX; clear hX hbX))
 obtain ⟨pb, hpb⟩ : ∃ n, w2.heap.size = n := ⟨_, rfl⟩
 have Hpb := ϕ (show Rg.Blk X3 pb 51 (u64s (els [R0.x, R0.y, R0.z, R0.t])) from hpb ▸ Hpb.out)
 try rw [hpb]
 clear hpb
 go_upto_region 4 with (first
  | ((with_reducible refine gate_ ?_); refine Cv.slice_to_array rfl 22 5 32 _ rfl _ _ _ _ rfl Tryz.underlying22 (by decide) ?_; skip)
  | ((with_reducible refine gate_ ?_); refine Cv.load_cells rfl 22 _ rfl gb 32 rfl (Cv.bytesV s) _ (Cv.Bytes.cells (back_of Hgb.out HRL.out)) Tryz.underlying22 rfl (by rw [Cv.bytesV_size, HSL.out]; kernel_rfl) ?_)
  | (refine Rg.store_fresh rfl 22 _ _ rfl (Cv.bytesV s) _ 22 rfl rfl (by rw [Cv.bytesV_size, HSL.out]; kernel_rfl) (by rw [Cv.bytesV_size, HSL.out]; rfl) (Cv.bytesV_one _) ?_; intro X4 hX hbX; have Hxb := ϕ hX; have Hkb := ϕ (Hkb.out.below hbX Hkb.out.lt); have Hgb := ϕ (Hgb.out.below hbX Hgb.out.lt); have Hcb := ϕ (Hcb.out.below hbX Hcb.out.lt); have Hpb := ϕ (Hpb.out.below hbX Hpb.out.lt); have HT := ϕ (HT.out.below hbX HT.out.size); have HO := ϕ (HO.out.below hbX HO.out.size); have HB := tm HB hbX; clear hX hbX))
 obtain ⟨xb, hxb⟩ : ∃ n, X3.heap.size = n := ⟨_, rfl⟩
 have Hxb := ϕ (show Rg.Blk X4 xb 22 (Cv.bytesV s) from hxb ▸ Hxb.out)
 try rw [hxb]
 clear hxb
 cases fb with
 | false =>
  go_wp2_with (first
   | (refine load_blk_g (by rfl) 22 _ rfl xb (Cv.bytesV s) 22 rfl Hxb.out Tryz.underlying22 rfl (by rw [Cv.bytesV_size, HSL.out]; kernel_rfl) ?_; skip)
   | (go_at_call 33; refine (CFI.out _ HO.out).mono ?_; rintro e w5 ⟨rfl, hb1⟩; have HB := tm HB hb1; clear hb1))
  go_ret
  exact ⟨rfl, HW.out ▸ HB.out⟩
 | true =>
  go_upto_region 6 with (first
   | (refine load_blk_g (by rfl) 22 _ rfl xb (Cv.bytesV s) 22 rfl Hxb.out Tryz.underlying22 rfl (by rw [Cv.bytesV_size, HSL.out]; kernel_rfl) ?_; skip)
   | (go_at_call 33; refine (CFI.out _ HO.out).mono ?_; rintro e w5 ⟨rfl, hb1⟩; have Hkb := ϕ (Hkb.out.below hb1 Hkb.out.lt); have Hgb := ϕ (Hgb.out.below hb1 Hgb.out.lt); have Hcb := ϕ (Hcb.out.below hb1 Hcb.out.lt); have Hpb := ϕ (Hpb.out.below hb1 Hpb.out.lt); have Hxb := ϕ (Hxb.out.below hb1 Hxb.out.lt); have HT := ϕ (HT.out.below hb1 HT.out.size); have HO := ϕ (HO.out.below hb1 HO.out.size); have HB := tm HB hb1; clear hb1))
  refine RL.start (RL.Aft w5) (by kernel_rfl) (RL.Aft.drew (RL.Aft.refl w5)) ?_
  refine' RL.tv 0 ?hk15 ?_
  case hk15 => (intro W hSW; go_simp; try with_reducible rfl)
  try go_frame
  refine' RL.tv 1 ?hk16 ?_
  case hk16 => (intro W hSW; have x1 := Cv.run_string_len (P := Tryz.prog) W 25 5 9 Tryz.underlying25 Tryz.underlying5 Tryz.underlying9 gb 0 32 64 r HRL.out (front_of (aft_blk hSW Hgb.out) HRL.out); go_simp; try with_reducible rfl)
  try go_frame
  refine' RL.tv 2 ?hk17 ?_
  case hk17 => (intro W hSW; go_simp; try with_reducible rfl)
  try go_frame
  refine' RL.tv 3 ?hk18 ?_
  case hk18 => (intro W hSW; have x1 := Cv.run_string_len (P := Tryz.prog) W 25 5 9 Tryz.underlying25 Tryz.underlying5 Tryz.underlying9 kb 0 32 32 key HKL.out (Cv.Bytes.of_blk (aft_blk hSW Hkb.out)); go_simp; try with_reducible rfl)
  try go_frame
  refine' RL.tv 4 ?hk19 ?_
  case hk19 => (intro W hSW; go_simp; try with_reducible rfl)
  try go_frame
  refine' RL.rest_of (T := ?TTq1) (fun sg yb W => RL.Aft w5 W ∧ Rg.Blk W yb 22 z32 ∧ w5.heap.size ≤ yb) ?hmainq1 ?hrrq1
  case hmainq1 =>
   intro hrest
   refine RL.step2 (i := 5) (j := 7) rfl rfl (by kernel_rfl) (by rfl) (by rfl) (fun y2 hly2 hsy2 K hK => ?_) (fun y2 hly2 hsy2 K hK => ?_)
   · refine RL.wp_made (v := .slice (some ⟨y2.heap.size, 0, none⟩) 3 3) (w' := y2.alloc (.cells #[.string ⟨r.toArray⟩, .string ⟨key.toArray⟩, .string (bs m)] 9)) (by go_simp; try rfl) ?_
     obtain ⟨sg, hsg⟩ : ∃ n, y2.heap.size = n := ⟨_, rfl⟩
     have hba : Below y2.heap.size y2 (y2.alloc (.cells #[.string ⟨r.toArray⟩, .string ⟨key.toArray⟩, .string (bs m)] 9)) := (Below.refl _ _).alloc (Nat.le_refl _) _
     have ksg : Rg.Blk (y2.alloc (.cells #[.string ⟨r.toArray⟩, .string ⟨key.toArray⟩, .string (bs m)] 9)) sg 9 #[.string ⟨r.toArray⟩, .string ⟨key.toArray⟩, .string (bs m)] := Rg.Blk.newAt hsg.symm _ _
     have gsg : w5.heap.size ≤ sg := by rw [← hsg]; exact (show RL.Aft w5 y2 from hsy2).size
     refine hK.out _ _ (RL.Aft.alloc hsy2 _) ?_
     try rw [hsg]
     have hSy2y : RL.Aft w5 (y2.alloc (.cells #[.string ⟨r.toArray⟩, .string ⟨key.toArray⟩, .string (bs m)] 9)) := RL.Aft.alloc hsy2 _
     generalize hyy2 : y2.alloc (.cells #[.string ⟨r.toArray⟩, .string ⟨key.toArray⟩, .string (bs m)] 9) = y2y at *
     clear hsg hba hyy2
     clear hK
     try go_frame
     refine RL.step2 (i := 6) (j := 7) rfl rfl (by kernel_rfl) (by rfl) (by rfl) (fun y3 hly3 hsy3 K hK => ?_) (fun y3 hly3 hsy3 K hK => ?_)
     · have ksg := ksg.below hly3 ksg.lt
       refine RL.wp_enter (F := 28) (args := #[.slice (some ⟨sg, 0, none⟩) 3 3]) (by go_simp; try rfl) ?_
       refine (HR2.out y3 _ (HT.out.below hsy3 HT.out.size) (HO.out.below hsy3 HO.out.size) (parts_blk [_, _, _] ksg 3 rfl)).mono ?_
       rintro e y3x ⟨rfl, hb⟩
       have hSy3x : RL.Aft w5 y3x := RL.Aft.lat hsy3 hb
       have ksg := ksg.below hb ksg.lt
       refine ⟨_, rfl, hK.out _ _ (RL.Aft.lat hsy3 hb) ?_⟩
       clear hK
       try go_frame
       refine RL.sk 7 (fun y4 hly4 hsy4 K hK => ?_)
       have ksg := ksg.below hly4 ksg.lt
       refine RL.wp_made (v := .pointer (some ⟨y4.heap.size, 0, none⟩)) (w' := y4.alloc (.cells z32 22)) (by go_simp; try rfl) ?_
       obtain ⟨yb, hyb⟩ : ∃ n, y4.heap.size = n := ⟨_, rfl⟩
       have hba : Below y4.heap.size y4 (y4.alloc (.cells z32 22)) := (Below.refl _ _).alloc (Nat.le_refl _) _
       have kyb : Rg.Blk (y4.alloc (.cells z32 22)) yb 22 z32 := Rg.Blk.newAt hyb.symm _ _
       have gyb : w5.heap.size ≤ yb := by rw [← hyb]; exact (show RL.Aft w5 y4 from hsy4).size
       have ksg := ksg.below hba ksg.lt
       refine hK.out _ _ (RL.Aft.alloc hsy4 _) ?_
       try rw [hyb]
       have hSy4y : RL.Aft w5 (y4.alloc (.cells z32 22)) := RL.Aft.alloc hsy4 _
       generalize hyy4 : y4.alloc (.cells z32 22) = y4y at *
       clear hyb hba hyy4
       clear hK
       try go_frame
       refine RL.norm #[true, true, true, true, true, true, true, true, false] (by kernel_rfl) ?_
       exact hrest sg yb _ ⟨by assumption, kyb, gyb⟩
     · have ksg := ksg.below hly3 ksg.lt
       refine RL.wp_made (v := .pointer (some ⟨y3.heap.size, 0, none⟩)) (w' := y3.alloc (.cells z32 22)) (by go_simp; try rfl) ?_
       obtain ⟨yb, hyb⟩ : ∃ n, y3.heap.size = n := ⟨_, rfl⟩
       have hba : Below y3.heap.size y3 (y3.alloc (.cells z32 22)) := (Below.refl _ _).alloc (Nat.le_refl _) _
       have kyb : Rg.Blk (y3.alloc (.cells z32 22)) yb 22 z32 := Rg.Blk.newAt hyb.symm _ _
       have gyb : w5.heap.size ≤ yb := by rw [← hyb]; exact (show RL.Aft w5 y3 from hsy3).size
       have ksg := ksg.below hba ksg.lt
       refine hK.out _ _ (RL.Aft.alloc hsy3 _) ?_
       try rw [hyb]
       have hSy3y : RL.Aft w5 (y3.alloc (.cells z32 22)) := RL.Aft.alloc hsy3 _
       generalize hyy3 : y3.alloc (.cells z32 22) = y3y at *
       clear hyb hba hyy3
       clear hK
       try go_frame
       refine RL.sk 6 (fun y5 hly5 hsy5 K hK => ?_)
       have ksg := ksg.below hly5 ksg.lt
       have kyb := kyb.below hly5 kyb.lt
       refine RL.wp_enter (F := 28) (args := #[.slice (some ⟨sg, 0, none⟩) 3 3]) (by go_simp; try rfl) ?_
       refine (HR2.out y5 _ (HT.out.below hsy5 HT.out.size) (HO.out.below hsy5 HO.out.size) (parts_blk [_, _, _] ksg 3 rfl)).mono ?_
       rintro e y5x ⟨rfl, hb⟩
       have hSy5x : RL.Aft w5 y5x := RL.Aft.lat hsy5 hb
       have ksg := ksg.below hb ksg.lt
       have kyb := kyb.below hb kyb.lt
       refine ⟨_, rfl, hK.out _ _ (RL.Aft.lat hsy5 hb) ?_⟩
       clear hK
       try go_frame
       refine RL.norm #[true, true, true, true, true, true, true, true, false] (by kernel_rfl) ?_
       exact hrest sg yb _ ⟨by assumption, kyb, gyb⟩
   · refine RL.wp_made (v := .pointer (some ⟨y2.heap.size, 0, none⟩)) (w' := y2.alloc (.cells z32 22)) (by go_simp; try rfl) ?_
     obtain ⟨yb, hyb⟩ : ∃ n, y2.heap.size = n := ⟨_, rfl⟩
     have hba : Below y2.heap.size y2 (y2.alloc (.cells z32 22)) := (Below.refl _ _).alloc (Nat.le_refl _) _
     have kyb : Rg.Blk (y2.alloc (.cells z32 22)) yb 22 z32 := Rg.Blk.newAt hyb.symm _ _
     have gyb : w5.heap.size ≤ yb := by rw [← hyb]; exact (show RL.Aft w5 y2 from hsy2).size
     refine hK.out _ _ (RL.Aft.alloc hsy2 _) ?_
     try rw [hyb]
     have hSy2y : RL.Aft w5 (y2.alloc (.cells z32 22)) := RL.Aft.alloc hsy2 _
     generalize hyy2 : y2.alloc (.cells z32 22) = y2y at *
     clear hyb hba hyy2
     clear hK
     try go_frame
     refine RL.sk 5 (fun y6 hly6 hsy6 K hK => ?_)
     have kyb := kyb.below hly6 kyb.lt
     refine RL.wp_made (v := .slice (some ⟨y6.heap.size, 0, none⟩) 3 3) (w' := y6.alloc (.cells #[.string ⟨r.toArray⟩, .string ⟨key.toArray⟩, .string (bs m)] 9)) (by go_simp; try rfl) ?_
     obtain ⟨sg, hsg⟩ : ∃ n, y6.heap.size = n := ⟨_, rfl⟩
     have hba : Below y6.heap.size y6 (y6.alloc (.cells #[.string ⟨r.toArray⟩, .string ⟨key.toArray⟩, .string (bs m)] 9)) := (Below.refl _ _).alloc (Nat.le_refl _) _
     have ksg : Rg.Blk (y6.alloc (.cells #[.string ⟨r.toArray⟩, .string ⟨key.toArray⟩, .string (bs m)] 9)) sg 9 #[.string ⟨r.toArray⟩, .string ⟨key.toArray⟩, .string (bs m)] := Rg.Blk.newAt hsg.symm _ _
     have gsg : w5.heap.size ≤ sg := by rw [← hsg]; exact (show RL.Aft w5 y6 from hsy6).size
     have kyb := kyb.below hba kyb.lt
     refine hK.out _ _ (RL.Aft.alloc hsy6 _) ?_
     try rw [hsg]
     have hSy6y : RL.Aft w5 (y6.alloc (.cells #[.string ⟨r.toArray⟩, .string ⟨key.toArray⟩, .string (bs m)] 9)) := RL.Aft.alloc hsy6 _
     generalize hyy6 : y6.alloc (.cells #[.string ⟨r.toArray⟩, .string ⟨key.toArray⟩, .string (bs m)] 9) = y6y at *
     clear hsg hba hyy6
     clear hK
     try go_frame
     refine RL.sk 6 (fun y7 hly7 hsy7 K hK => ?_)
     have kyb := kyb.below hly7 kyb.lt
     have ksg := ksg.below hly7 ksg.lt
     refine RL.wp_enter (F := 28) (args := #[.slice (some ⟨sg, 0, none⟩) 3 3]) (by go_simp; try rfl) ?_
     refine (HR2.out y7 _ (HT.out.below hsy7 HT.out.size) (HO.out.below hsy7 HO.out.size) (parts_blk [_, _, _] ksg 3 rfl)).mono ?_
     rintro e y7x ⟨rfl, hb⟩
     have hSy7x : RL.Aft w5 y7x := RL.Aft.lat hsy7 hb
     have kyb := kyb.below hb kyb.lt
     have ksg := ksg.below hb ksg.lt
     refine ⟨_, rfl, hK.out _ _ (RL.Aft.lat hsy7 hb) ?_⟩
     clear hK
     try go_frame
     refine RL.norm #[true, true, true, true, true, true, true, true, false] (by kernel_rfl) ?_
     exact hrest sg yb _ ⟨by assumption, kyb, gyb⟩
  case hrrq1 =>
   rintro sg yb Z0 ⟨ha0, hZ, gyb⟩
   have Fyb := ϕ gyb
   refine RL.sk 8 (fun va hlva hsva K hK => ?_)
   have hZ := hZ.below hlva hZ.lt
   refine store_blk_op 22 _ _ rfl yb (Cv.bytesV kk) _ 22 rfl (by rfl) hZ (by rw [Cv.bytesV_size, HKK.out]; kernel_rfl) (by rw [Cv.bytesV_size, HKK.out]; rfl) (Cv.bytesV_one _) ?_
   intro Y9 hY hgY
   refine hK.out _ _ (Below.grown hsva hgY (Below.size hsva) (fun k hk => by cases hk; exact Fyb.out)) ?_
   clear hK
   try go_frame
   refine RL.done (by kernel_rfl) (fun Z5 hlZ5 hsZ5 => ?_)
   have Hyb := ϕ (show Rg.Blk Z5 yb 22 (Cv.bytesV kk) from hY.below hlZ5 hY.lt)
   clear hZ hY hgY hlva hsva
   have HA := ϕ (show RL.Aft w5 Z5 from hsZ5)
   have Hgb := ϕ (aft_blk HA.out Hgb.out)
   have Hcb := ϕ (aft_blk HA.out Hcb.out)
   have Hpb := ϕ (aft_blk HA.out Hpb.out)
   have Hxb := ϕ (aft_blk HA.out Hxb.out)
   have HB := ϕ (HB.out.trans (Below.mono HA.out HB.out.size))
   clear HA hsZ5 hlZ5
   go_upto_region 7 with fail
   refine RL.start (RL.Aft Z5) (by kernel_rfl) (RL.Aft.drew (RL.Aft.refl Z5)) ?_
   refine' RL.tv 0 ?hk20 ?_
   case hk20 => (intro W hSW; go_simp; try with_reducible rfl)
   try go_frame
   refine' RL.tv 1 ?hk21 ?_
   case hk21 => (intro W hSW; go_simp; try with_reducible rfl)
   try go_frame
   refine RL.tw 2 (v := .agg (Cv.bytesV s)) rfl (fun W hSW => RT.run_row 22 _ rfl _ rfl _ _ (aft_blk hSW Hxb.out) Tryz.underlying22 rfl (by rw [Cv.bytesV_size, HSL.out]; kernel_rfl)) ?_
   try go_frame
   refine' RL.tv 3 ?hk22 ?_
   case hk22 => (intro W hSW; go_simp; try with_reducible rfl)
   try go_frame
   refine' RL.tv 4 ?hk23 ?_
   case hk23 => (intro W hSW; go_simp; try with_reducible rfl)
   try go_frame
   refine' RL.tv 5 ?hk24 ?_
   case hk24 => (intro W hSW; go_simp; try with_reducible rfl)
   try go_frame
   refine RL.tw 6 (v := .agg (u64s (els [c1, c2, c3, c4]))) rfl (fun W hSW => run_at 51 _ rfl cb 10 rfl (u64s (els [c1, c2, c3, c4])) (els_at (aft_blk hSW Hcb.out) 2 10 [c1, c2, c3, c4] rfl rfl (by simp)) Tryz.underlying51 rfl (by kernel_rfl)) ?_
   try go_frame
   refine' RL.tc 7 (v := (.agg (u64s (els [R1.x, R1.y, R1.z, R1.t])))) 19 #[.pointer (some ⟨cb, 0, none⟩), .agg (Cv.bytesV s), .agg (u64s (els [c1, c2, c3, c4]))] ?hk25 ?hc25 ?_
   case hk25 => (intro W; go_simp; try with_reducible rfl)
   case hc25 => (intro W hSW; exact (CM1.out cb W (aft_blk hSW Hcb.out)).mono (fun e w9 h9 => ⟨h9.1, h9.2, RL.Aft.lat hSW h9.2⟩))
   try go_frame
   refine' RL.tv 8 ?hk26 ?_
   case hk26 => (intro W hSW; go_simp; try with_reducible rfl)
   try go_frame
   refine RL.tw 9 (v := .agg (Cv.bytesV kk)) rfl (fun W hSW => RT.run_row 22 _ rfl _ rfl _ _ (aft_blk hSW Hyb.out) Tryz.underlying22 rfl (by rw [Cv.bytesV_size, HKK.out]; kernel_rfl)) ?_
   try go_frame
   refine RL.tw 10 (v := .agg (u64s (els [R0.x, R0.y, R0.z, R0.t]))) rfl (fun W hSW => RT.run_row 51 _ rfl _ rfl _ _ (aft_blk hSW Hpb.out) Tryz.underlying51 rfl (by kernel_rfl)) ?_
   try go_frame
   refine' RL.tc 11 (v := (.agg (u64s (els [N0.x, N0.y, N0.z, N0.t])))) 35 #[.agg (u64s (els [R0.x, R0.y, R0.z, R0.t]))] ?hk27 ?hc27 ?_
   case hk27 => (intro W; go_simp; try with_reducible rfl)
   case hc27 => (intro W hSW; exact (CNE.out W).mono (fun e w9 h9 => ⟨h9.1, h9.2, RL.Aft.lat hSW h9.2⟩))
   try go_frame
   refine' RL.tc 12 (v := (.agg (u64s (els [R2.x, R2.y, R2.z, R2.t])))) 19 #[.pointer (some ⟨cb, 0, none⟩), .agg (Cv.bytesV kk), .agg (u64s (els [N0.x, N0.y, N0.z, N0.t]))] ?hk28 ?hc28 ?_
   case hk28 => (intro W; go_simp; try with_reducible rfl)
   case hc28 => (intro W hSW; exact (CM2.out cb W (aft_blk hSW Hcb.out)).mono (fun e w9 h9 => ⟨h9.1, h9.2, RL.Aft.lat hSW h9.2⟩))
   try go_frame
   refine' RL.tc 13 (v := (.agg (u64s (els [D0.x, D0.y, D0.z, D0.t])))) 34 #[.pointer (some ⟨cb, 0, none⟩), .agg (u64s (els [R1.x, R1.y, R1.z, R1.t])), .agg (u64s (els [R2.x, R2.y, R2.z, R2.t]))] ?hk29 ?hc29 ?_
   case hk29 => (intro W; go_simp; try with_reducible rfl)
   case hc29 => (intro W hSW; exact (CAD.out cb W (aft_blk hSW Hcb.out)).mono (fun e w9 h9 => ⟨h9.1, h9.2, RL.Aft.lat hSW h9.2⟩))
   try go_frame
   refine' RL.tc 14 (v := (.agg (Cv.bytesV be))) 21 #[.agg (u64s (els [D0.x, D0.y, D0.z, D0.t]))] ?hk30 ?hc30 ?_
   case hk30 => (intro W; go_simp; try with_reducible rfl)
   case hc30 => (intro W hSW; exact (CBY.out W).mono (fun e w9 h9 => ⟨h9.1, h9.2, RL.Aft.lat hSW h9.2⟩))
   try go_frame
   refine' RL.tv 15 ?hk31 ?_
   case hk31 => (intro W hSW; go_simp; try with_reducible rfl)
   try go_frame
   refine RL.tw 16 (v := .pointer (some ⟨gb, 0, none⟩)) rfl (fun W hSW => run_arr 22 5 32 _ rfl gb 0 32 64 rfl Tryz.underlying22 (by decide)) ?_
   try go_frame
   refine RL.tw 17 (v := .agg (Cv.bytesV r)) rfl (fun W hSW => run_at 22 _ rfl gb 0 rfl (Cv.bytesV r) (Cv.Bytes.cells (front_of (aft_blk hSW Hgb.out) HRL.out)) Tryz.underlying22 rfl (by rw [Cv.bytesV_size, HRL.out]; kernel_rfl)) ?_
   try go_frame
   refine' RL.tw 18 (v := .bool eb) rfl ?e8 ?_
   case e8 => (intro W hSW; have x1 := HEQ.out W; go_simp; try (clear x1; cases eb <;> rfl))
   try go_frame
   refine' RL.tv 19 ?hk32 ?_
   case hk32 => (intro W hSW; go_simp; try with_reducible rfl)
   try go_frame
   refine RL.done (by kernel_rfl) (fun Z9 hlZ9 hsZ9 => ?_)
   have HB := ϕ (HB.out.trans (Below.mono (show RL.Aft Z5 Z9 from hsZ9) HB.out.size))
   go_wp2_with fail
   go_ret
   exact ⟨rfl, HW.out ▸ HB.out⟩
theorem Verify_any (w : World) (key m r s : List UInt8) (hk : key.length = 32) (hm : m.length ≤ 10000) (hr : r.length = 32) (hs : s.length = 32) (hT : Sha.Tables w) (hO : Ord w) : Calls Tryz.prog 14 #[.agg (Cv.bytesV key), .string (bs m), .agg (Cv.bytesV (r ++ s))] w fun e w' => e = .returned (.bool (ver key m r s)) ∧ Below w.heap.size w w' := by
 cases hd : dec key with
 | none => exact ver_no w key m r s hk hr hs hd hT hO
 | some A => exact ver_yes w key m r s hk hm hr hs hd hT hO
end Go.Proofs.YtfpcelmekfdafaaGreatDoor.Kx
namespace Go.Proofs.YtfpcelmekfdafaaGreatDoor.Ed
open Go.Proofs.YtfpcelmekfdafaaGreatDoor.Nt
theorem t0 (d x y : F) (hx : x = 0) : 1 - d * x * x * y * y = 1 := by rw [hx]; grobner
theorem Pt.mul_zero : ∀ n, Pt.mul n Pt.zero = Pt.zero
 | 0 => rfl
 | n + 1 => by show (Pt.mul n Pt.zero).add Pt.zero = _; rw [Pt.mul_zero n, Pt.add_zero]
theorem Pt.order {l n : Nat} (hl : Pr l) {p : Pt} (hL : Pt.mul l p = Pt.zero) (hn : Pt.mul n p = Pt.zero) (hd : ¬ l ∣ n) : p = Pt.zero := by
 have hf := fermat hl hd
 have h1 : Pt.mul (n ^ (l - 1)) p = Pt.zero := by
  obtain ⟨k, hk⟩ : ∃ k, l - 1 = k + 1 := ⟨l - 2, by have := hl.1; omega⟩
  rw [hk, Nat.pow_succ, Pt.mul_mul, hn, Pt.mul_zero]
 have h2 : n ^ (l - 1) = n ^ (l - 1) / l * l + 1 := by
  have := Nat.div_add_mod (n ^ (l - 1)) l
  rw [hf, Nat.mul_comm] at this
  exact this.symm
 rw [h2] at h1
 have h3 : Pt.mul (n ^ (l - 1) / l * l + 1) p = (Pt.mul (n ^ (l - 1) / l * l) p).add p := rfl
 rw [h3, Pt.mul_mul, hL, Pt.mul_zero, Pt.zero_add] at h1
 exact h1
theorem base_ne : base ≠ Pt.zero := fun h => by
 have : base.y = (1 : F) := by rw [h]; rfl
 exact absurd this (by decide +kernel)
end Go.Proofs.YtfpcelmekfdafaaGreatDoor.Ed
namespace Go.Proofs.YtfpcelmekfdafaaGreatDoor.Kx
open Go.Proofs.YtfpcelmekfdafaaGreatDoor.Ed Go.Proofs.YtfpcelmekfdafaaGreatDoor.Cl
theorem getD_set_ne (l : List UInt8) (i j : Nat) (v d : UInt8) (h : i ≠ j) : (l.set i v).getD j d = l.getD j d := by
 rw [List.getD_eq_getElem?_getD, List.getD_eq_getElem?_getD, List.getElem?_set_ne h]
end Go.Proofs.YtfpcelmekfdafaaGreatDoor.Kx
namespace Go.Proofs.YtfpcelmekfdafaaGreatDoor.Ed
open Go.Proofs.YtfpcelmekfdafaaGreatDoor.Nt Go.Proofs.YtfpcelmekfdafaaGreatDoor.Kx Go.Proofs.YtfpcelmekfdafaaGreatDoor.Rf
theorem mul_modL (n : Nat) : Pt.mul (n % L) base = Pt.mul n base := by
 have h : Pt.mul n base = Pt.mul (L * (n / L) + n % L) base := by rw [Nat.div_add_mod]
 rw [h, Pt.mul_add, Pt.mul_mul, Pt.mul_swap, ord_base, Pt.mul_zero, Pt.zero_add]
theorem mul_cong {m n : Nat} (h : m % L = n % L) : Pt.mul m base = Pt.mul n base := by rw [← mul_modL m, h, mul_modL]
theorem neg_is (a : Nat) (l : Nat) (hl : L = l + 1) : (Pt.mul a base).neg = Pt.mul (l * a) base := by
 refine Pt.cancel _ _ (Pt.mul a base) ?_
 rw [Pt.comm, Pt.add_neg, ← Pt.mul_add, show l * a + a = L * a by rw [hl, Nat.add_mul, Nat.one_mul], Pt.mul_mul, Pt.mul_swap, ord_base, Pt.mul_zero]
/-- what a check reckons, as one multiple -/
theorem check_is (S k a l : Nat) (hl : L = l + 1) : (Pt.mul S base).add (Pt.mul k (Pt.mul a base).neg) = Pt.mul (S + k * (l * a)) base := by
 rw [neg_is a l hl, ← Pt.mul_mul, ← Pt.mul_add]
theorem sum_mod (k a r l n : Nat) (hl : n = l + 1) : ((k * a + r) % n + k * (l * a)) % n = r % n := by
 rw [Nat.add_mod, Nat.mod_mod, ← Nat.add_mod]
 have : k * a + r + k * (l * a) = r + n * (k * a) := by
  rw [hl, Nat.add_mul, Nat.one_mul, Nat.mul_left_comm k l a]
  omega
 rw [this, Nat.add_mul_mod_self_left]
def Lm : Nat := 7237005577332262213973186563042994240857116359379907606001950938285454250988
theorem Lm_eq : L = Lm + 1 := by decide +kernel
theorem enc_inj {p q : Pt} (h : enc p = enc q) : p = q := by
 have h1 := dec_enc p
 rw [h, dec_enc q] at h1
 exact (some_eq (P := fun x => x = q) h1 rfl)
theorem dec_pub (seed : List UInt8) : dec (pub seed) = some (pubP seed) := dec_enc _
/-- a signature fits -/
theorem ver_sig (seed m : List UInt8) : ver (pub seed) m (enc (rP seed m)) (toLe 32 (sN seed (pub seed) m)) = true := by
 rw [ver_some (dec_pub seed)]
 have hS : sN seed (pub seed) m < L := Nat.mod_lt _ l_pos
 rw [leN_l hS, decide_eq_true hS, Bool.true_and]
 refine decide_eq_true (congrArg enc ?_)
 show (Pt.mul _ base).add (Pt.mul _ (Pt.mul (aN seed) base).neg) = Pt.mul (rN seed m) base
 rw [check_is _ _ _ _ Lm_eq]
 refine mul_cong ?_
 unfold sN
 exact sum_mod _ _ _ _ _ Lm_eq
/-- two multiples with different numbers -/
theorem mulB_ne {x r : Nat} (h : (x + (L - r % L)) % L ≠ 0) : Pt.mul x base ≠ Pt.mul r base := fun e => by
 have h1 : Pt.mul (x + (L - r % L)) base = Pt.zero := by
  rw [Pt.mul_add, e, ← mul_modL r, ← Pt.mul_add, show r % L + (L - r % L) = L by have := Nat.mod_lt r l_pos; omega, ord_base]
 exact base_ne (Pt.order Nt.pr_l ord_base h1 (fun hd => h (Nat.mod_eq_zero_of_dvd hd)))
theorem ver_not {seed m n : List UInt8} (h : (sN seed (pub seed) m + red (enc (rP seed m) ++ pub seed ++ n) * (Lm * aN seed) + (L - rN seed m % L)) % L ≠ 0) : ver (pub seed) n (enc (rP seed m)) (toLe 32 (sN seed (pub seed) m)) = false := by
 rw [ver_some (dec_pub seed)]
 have hS : sN seed (pub seed) m < L := Nat.mod_lt _ l_pos
 rw [leN_l hS, decide_eq_true hS, Bool.true_and]
 refine decide_eq_false (fun e => ?_)
 have e2 := enc_inj e
 have e3 : (Pt.mul (sN seed (pub seed) m) base).add (Pt.mul (red (enc (rP seed m) ++ pub seed ++ n)) (Pt.mul (aN seed) base).neg) = Pt.mul (rN seed m) base := e2
 rw [check_is _ _ _ _ Lm_eq] at e3
 exact mulB_ne h e3
theorem f_comm (a b : F) : a * b = b * a := by grobner
/-- a multiple's bytes, by the kernel -/
theorem enc_of {n x y e : Nat} (hn : n < 2 ^ 256) (hx : x < P) (hy : y < P) (h : kDbl bx.val byy.val 1 256 n (fun A B C => A == x * C % P && B == y * C % P) = true) (he : e = y + 2 ^ 255 * (x % 2)) : enc (Pt.mul n base) = toLe 32 e := by
 obtain ⟨A, B, C, h1, h2⟩ := kDbl_eq base (Rep.of base) 256 n
 have h3 := h2 Bool (fun A B C => A == x * C % P && B == y * C % P)
 rw [show (1 : Nat) = (1 : F).val from rfl] at h
 rw [show kDbl bx.val byy.val (1 : F).val 256 n (fun A B C => A == x * C % P && B == y * C % P) = _ from h3] at h
 rw [Bool.and_eq_true, beq_iff_eq, beq_iff_eq] at h
 rw [Pt.dbl_eq base 256 n hn] at h1
 have hA : C * (Pt.mul n base).x = C * ⟨x, hx⟩ := by
  rw [f_comm, ← h1.x, f_comm]
  exact Fin.ext h.1
 have hB : C * (Pt.mul n base).y = C * ⟨y, hy⟩ := by
  rw [f_comm, ← h1.y, f_comm]
  exact Fin.ext h.2
 have ex := cancel h1.z hA
 have ey := cancel h1.z hB
 unfold enc encN
 rw [ex, ey, he]
def s1 : List UInt8 := [1, 0, 0, 0, 0, 0, 0, 0, 0, 0, 0, 0, 0, 0, 0, 0, 0, 0, 0, 0, 0, 0, 0, 0, 0, 0, 0, 0, 0, 0, 0, 0]
def d1 : List UInt8 := [206, 12, 38, 94, 204, 130, 221, 140, 238, 110, 86, 206, 68, 228, 93, 175, 215, 160, 197, 117, 13, 249, 20, 178, 83, 161, 251, 122, 138, 246, 109, 219, 153, 118, 54, 7, 240, 168, 93, 11, 212, 54, 105, 25, 74, 58, 64, 87, 122, 82, 138, 243, 149, 244, 241, 126, 6, 241, 222, 252, 198, 222, 178, 165]
def p1 : List UInt8 := [206, 204, 21, 7, 220, 29, 221, 114, 149, 149, 28, 41, 8, 136, 240, 149, 173, 185, 4, 77, 27, 115, 214, 150, 230, 223, 6, 93, 104, 59, 212, 252]
def r1 : List UInt8 := [201, 109, 201, 63, 7, 56, 97, 11, 167, 251, 241, 72, 213, 248, 62, 58, 247, 169, 150, 2, 66, 169, 61, 247, 125, 196, 208, 55, 148, 83, 246, 35]
theorem d1_is : dig5 s1 = d1 := by decide +kernel
theorem a1_is : aN s1 = 41354757114163650016304086911142683682198188400503391378057401993857692208328 := by
 unfold aN
 rw [d1_is]
 decide +kernel
theorem p1_is : pub s1 = p1 := by
 unfold pub pubP
 rw [a1_is, enc_of (x := 26822555233711949854380153315158647482531717314742952720223963642152101436051) (y := 56461774818723834839721450787889437474891852695816614318545467683432985644238) (e := 114357819437381932551506943292233391401526845028636896338274259687389550464206) (by decide +kernel) (by decide +kernel) (by decide +kernel) (by decide +kernel) (by decide +kernel)]
 decide +kernel
theorem n1_is : rN s1 [109] = 4890104081311413305361073175215351191204643243835004713526441721940766287696 := by
 unfold rN red
 rw [d1_is]
 decide +kernel
theorem r1_is : enc (rP s1 [109]) = r1 := by
 unfold rP
 rw [n1_is, enc_of (x := 36589614117339618185487057778166490842490972133339139349903414575049252153694) (y := 16266170919246754522540951498933028769817383645178266188855790139532158528969) (e := 16266170919246754522540951498933028769817383645178266188855790139532158528969) (by decide +kernel) (by decide +kernel) (by decide +kernel) (by decide +kernel) (by decide +kernel)]
 decide +kernel
theorem km_is : red (r1 ++ p1 ++ [109]) = 2451039515709583726476366537570809016505929779665322811895523651432471642957 := by unfold red; decide +kernel
theorem kn_is : red (r1 ++ p1 ++ [110]) = 1632659995609997945301961149528741832457992758927200494524137169447212801414 := by unfold red; decide +kernel
theorem sN_of {s m e p : List UInt8} {k a r S : Nat} (h0 : enc (rP s m) = e) (hp : pub s = p) (h1 : red (e ++ p ++ m) = k) (h2 : aN s = a) (h3 : rN s m = r) (h4 : (k * a + r) % L = S) : sN s (pub s) m = S := by
 unfold sN
 rw [h0, hp, h1, h2, h3]
 exact h4
theorem s1_is : sN s1 (pub s1) [109] = 3578348655535617917364192395663811809538708995023043596639455394899626080766 := sN_of r1_is p1_is km_is a1_is n1_is (by decide +kernel)
theorem one_no : ver (pub s1) [110] (enc (rP s1 [109])) (toLe 32 (sN s1 (pub s1) [109])) = false := by
 refine ver_not ?_
 rw [s1_is, r1_is, p1_is, kn_is, a1_is, n1_is]
 decide +kernel
end Go.Proofs.YtfpcelmekfdafaaGreatDoor.Ed
namespace Go.Proofs.YtfpcelmekfdafaaGreatDoor.Kx
open Go.RowKit Go.Proofs.YtfpcelmekfdafaaGreatDoor.Cl Go.Proofs.YtfpcelmekfdafaaGreatDoor.Ed Go.Proofs.YtfpcelmekfdafaaGreatDoor.Rf
theorem s1b : Cv.bytesV Ed.s1 = (#[.int .u8 1, .int .u8 0, .int .u8 0, .int .u8 0, .int .u8 0, .int .u8 0, .int .u8 0, .int .u8 0, .int .u8 0, .int .u8 0, .int .u8 0, .int .u8 0, .int .u8 0, .int .u8 0, .int .u8 0, .int .u8 0, .int .u8 0, .int .u8 0, .int .u8 0, .int .u8 0, .int .u8 0, .int .u8 0, .int .u8 0, .int .u8 0, .int .u8 0, .int .u8 0, .int .u8 0, .int .u8 0, .int .u8 0, .int .u8 0, .int .u8 0, .int .u8 0] : Array Value) := by unfold Cv.bytesV Ed.s1; rfl
theorem s1_len : Ed.s1.length = 32 := by decide
theorem pub_len (l : List UInt8) : (pub l).length = 32 := enc_len _
/-- a key, a signature and their check, over names -/
structure Sg (w : World) : Prop where
 t : Sha.Tables w
 o : Ord w
theorem Sg.below {w w' : World} (h : Sg w) (hb : Below w.heap.size w w') : Sg w' := ⟨h.t.below hb h.t.size, h.o.below hb h.o.size⟩
theorem Sg.aft {w w' : World} (h : Sg w) (hb : RL.Aft w w') : Sg w' := h.below hb
theorem sig_is (seed m : List UInt8) : sig seed (pub seed) m = enc (rP seed m) ++ toLe 32 (sN seed (pub seed) m) := rfl
theorem awake08 (w : World) (hG : Sg w) : Calls Tryz.prog 7 #[] w fun e w' => e = .returned (.bool true) ∧ Below w.heap.size w w' := by
 obtain ⟨ke, hke⟩ : ∃ k, pub Ed.s1 = k := ⟨_, rfl⟩
 obtain ⟨r, hr⟩ : ∃ k, enc (rP Ed.s1 [109]) = k := ⟨_, rfl⟩
 obtain ⟨s, hs⟩ : ∃ k, toLe 32 (sN Ed.s1 (pub Ed.s1) [109]) = k := ⟨_, rfl⟩
 have hkl : ke.length = 32 := by rw [← hke]; exact pub_len _
 have hrl : r.length = 32 := by rw [← hr]; exact enc_len _
 have hsl : s.length = 32 := by rw [← hs, toLe_len]
 have v1 := ver_sig Ed.s1 [109]
 have v2 := one_no
 rw [hr, hs, hke] at v1 v2
 have dk := dec_pub Ed.s1
 rw [hke] at dk
 have CKE := ϕ (fun W (h : Sg W) => show Calls Tryz.prog 8 #[.agg (Cv.bytesV Ed.s1)] W fun e w' => e = .returned (.agg (Cv.bytesV ke)) ∧ Below W.heap.size W w' from hke ▸ Key_any W Ed.s1 s1_len h.t)
 have CPO := ϕ (fun W => show Calls Tryz.prog 10 #[.agg (Cv.bytesV ke)] W fun e w' => e = .returned (.bool true) ∧ Below W.heap.size W w' from by
  have h := Point_any W ke hkl
  rw [dk] at h
  exact h)
 have CSI := ϕ (fun W (h : Sg W) => show Calls Tryz.prog 12 #[.agg (Cv.bytesV Ed.s1), .string ⟨#[109]⟩] W fun e w' => e = .returned (.agg (Cv.bytesV (r ++ s))) ∧ Below W.heap.size W w' from by
  have h := Sign_any W Ed.s1 [109] s1_len (by decide) h.t h.o
  rw [sig_is, hr, hs] at h
  exact h)
 have CV1 := ϕ (fun W (h : Sg W) => show Calls Tryz.prog 14 #[.agg (Cv.bytesV ke), .string ⟨#[109]⟩, .agg (Cv.bytesV (r ++ s))] W fun e w' => e = .returned (.bool true) ∧ Below W.heap.size W w' from by
  have h := Verify_any W ke [109] r s hkl (by decide) hrl hsl h.t h.o
  rw [v1] at h
  exact h)
 have CV2 := ϕ (fun W (h : Sg W) => show Calls Tryz.prog 14 #[.agg (Cv.bytesV ke), .string ⟨#[110]⟩, .agg (Cv.bytesV (r ++ s))] W fun e w' => e = .returned (.bool false) ∧ Below W.heap.size W w' from by
  have h := Verify_any W ke [110] r s hkl (by decide) hrl hsl h.t h.o
  rw [v2] at h
  exact h)
 have HKL := ϕ hkl
 have HSL := ϕ s1_len
 have HG := ϕ hG
 have HB := ϕ (Below.refl w.heap.size w)
 clear hG hke hr hs hkl hrl hsl v1 v2 dk
 go_enter Tryz.func7, Tryz.ntmps7
 go_upto_region 2 with (refine Rg.store_fresh rfl 22 _ _ rfl (Cv.bytesV Ed.s1) _ 22 rfl (by rw [s1b]; rfl) (by rw [Cv.bytesV_size, HSL.out]; kernel_rfl) (by rw [Cv.bytesV_size, HSL.out]; rfl) (Cv.bytesV_one _) ?_; intro V1 hX hbX; have Hsb := ϕ hX;  have HG := ϕ (HG.out.below hbX); have HB := tm HB hbX; clear hX hbX)
 obtain ⟨sb, hsb⟩ : ∃ n, w.heap.size = n := ⟨_, rfl⟩
 have Hsb := ϕ (show Rg.Blk V1 sb 22 (Cv.bytesV Ed.s1) from hsb ▸ Hsb.out)
 have HW := ϕ hsb
 try rw [hsb]
 clear hsb
 go_upto_region 3 with (first
  | ((with_reducible refine gate_ ?_); refine Cv.load_cells rfl 22 _ rfl sb 0 rfl (Cv.bytesV Ed.s1) _ (fun j v hv => by rw [Nat.zero_add]; exact Rg.Blk.cell Hsb.out j hv) Tryz.underlying22 rfl (by rw [Cv.bytesV_size, HSL.out]; kernel_rfl) ?_)
  | (go_at_call 8; refine (CKE.out _ HG.out).mono ?_; rintro e w1 ⟨rfl, hb1⟩; have Hsb := ϕ (Hsb.out.below hb1 Hsb.out.lt); have HG := ϕ (HG.out.below hb1); have HB := tm HB hb1; clear hb1)
  | (refine Rg.store_fresh rfl 22 _ _ rfl (Cv.bytesV ke) _ 22 rfl rfl (by rw [Cv.bytesV_size, HKL.out]; kernel_rfl) (by rw [Cv.bytesV_size, HKL.out]; rfl) (Cv.bytesV_one _) ?_; intro V2 hX hbX; have Hkb := ϕ hX; have Hsb := ϕ (Hsb.out.below hbX Hsb.out.lt); have HG := ϕ (HG.out.below hbX); have HB := tm HB hbX; clear hX hbX))
 obtain ⟨kb, hkb⟩ : ∃ n, w1.heap.size = n := ⟨_, rfl⟩
 have Hkb := ϕ (show Rg.Blk V2 kb 22 (Cv.bytesV ke) from hkb ▸ Hkb.out)
 try rw [hkb]
 clear hkb
 refine RL.start (RL.Aft V2) (by kernel_rfl) (RL.Aft.drew (RL.Aft.refl V2)) ?_
 refine RL.tw 0 (v := .agg (Cv.bytesV ke)) rfl (fun W hSW => RT.run_row 22 _ rfl _ rfl _ _ (aft_blk hSW Hkb.out) Tryz.underlying22 rfl (by rw [Cv.bytesV_size, HKL.out]; kernel_rfl)) ?_
 try go_frame
 refine' RL.tc 1 (v := (.bool true)) 10 #[.agg (Cv.bytesV ke)] ?hk15 ?hc15 ?_
 case hk15 => (intro W; go_simp; try with_reducible rfl)
 case hc15 => (intro W hSW; exact (CPO.out W).mono (fun e w9 h9 => ⟨h9.1, h9.2, RL.Aft.lat hSW h9.2⟩))
 try go_frame
 refine' RL.tv 2 ?hk16 ?_
 case hk16 => (intro W hSW; go_simp; try with_reducible rfl)
 try go_frame
 refine RL.tw 3 (v := .agg (Cv.bytesV ke)) rfl (fun W hSW => RT.run_row 22 _ rfl _ rfl _ _ (aft_blk hSW Hkb.out) Tryz.underlying22 rfl (by rw [Cv.bytesV_size, HKL.out]; kernel_rfl)) ?_
 try go_frame
 refine RL.tw 4 (v := .agg (Cv.bytesV Ed.s1)) rfl (fun W hSW => RT.run_row 22 _ rfl _ rfl _ _ (aft_blk hSW Hsb.out) Tryz.underlying22 rfl (by rw [Cv.bytesV_size, HSL.out]; kernel_rfl)) ?_
 try go_frame
 refine' RL.tc 5 (v := (.agg (Cv.bytesV (r ++ s)))) 12 #[.agg (Cv.bytesV Ed.s1), .string ⟨#[109]⟩] ?hk17 ?hc17 ?_
 case hk17 => (intro W; go_simp; try with_reducible rfl)
 case hc17 => (intro W hSW; exact (CSI.out W (HG.out.aft hSW)).mono (fun e w9 h9 => ⟨h9.1, h9.2, RL.Aft.lat hSW h9.2⟩))
 try go_frame
 refine' RL.tc 6 (v := (.bool true)) 14 #[.agg (Cv.bytesV ke), .string ⟨#[109]⟩, .agg (Cv.bytesV (r ++ s))] ?hk18 ?hc18 ?_
 case hk18 => (intro W; go_simp; try with_reducible rfl)
 case hc18 => (intro W hSW; exact (CV1.out W (HG.out.aft hSW)).mono (fun e w9 h9 => ⟨h9.1, h9.2, RL.Aft.lat hSW h9.2⟩))
 try go_frame
 refine' RL.tv 7 ?hk19 ?_
 case hk19 => (intro W hSW; go_simp; try with_reducible rfl)
 try go_frame
 refine' RL.tv 8 ?hk20 ?_
 case hk20 => (intro W hSW; go_simp; try with_reducible rfl)
 try go_frame
 refine RL.tw 9 (v := .agg (Cv.bytesV ke)) rfl (fun W hSW => RT.run_row 22 _ rfl _ rfl _ _ (aft_blk hSW Hkb.out) Tryz.underlying22 rfl (by rw [Cv.bytesV_size, HKL.out]; kernel_rfl)) ?_
 try go_frame
 refine RL.tw 10 (v := .agg (Cv.bytesV Ed.s1)) rfl (fun W hSW => RT.run_row 22 _ rfl _ rfl _ _ (aft_blk hSW Hsb.out) Tryz.underlying22 rfl (by rw [Cv.bytesV_size, HSL.out]; kernel_rfl)) ?_
 try go_frame
 refine' RL.tc 11 (v := (.agg (Cv.bytesV (r ++ s)))) 12 #[.agg (Cv.bytesV Ed.s1), .string ⟨#[109]⟩] ?hk21 ?hc21 ?_
 case hk21 => (intro W; go_simp; try with_reducible rfl)
 case hc21 => (intro W hSW; exact (CSI.out W (HG.out.aft hSW)).mono (fun e w9 h9 => ⟨h9.1, h9.2, RL.Aft.lat hSW h9.2⟩))
 try go_frame
 refine' RL.tc 12 (v := (.bool false)) 14 #[.agg (Cv.bytesV ke), .string ⟨#[110]⟩, .agg (Cv.bytesV (r ++ s))] ?hk22 ?hc22 ?_
 case hk22 => (intro W; go_simp; try with_reducible rfl)
 case hc22 => (intro W hSW; exact (CV2.out W (HG.out.aft hSW)).mono (fun e w9 h9 => ⟨h9.1, h9.2, RL.Aft.lat hSW h9.2⟩))
 try go_frame
 refine' RL.tv 13 ?hk23 ?_
 case hk23 => (intro W hSW; go_simp; try with_reducible rfl)
 try go_frame
 refine' RL.tv 14 ?hk24 ?_
 case hk24 => (intro W hSW; go_simp; try with_reducible rfl)
 try go_frame
 refine' RL.tv 15 ?hk25 ?_
 case hk25 => (intro W hSW; go_simp; try with_reducible rfl)
 try go_frame
 refine RL.done (by kernel_rfl) (fun Z hlZ hsZ => ?_)
 have HB := ϕ (HB.out.trans (Below.mono (show RL.Aft V2 Z from hsZ) HB.out.size))
 go_wp2_with fail
 go_ret
 exact ⟨rfl, HW.out ▸ HB.out⟩
open Go.Proofs.YtfpcelmekfdafaaGreatDoor.Dg
theorem Cut08 (w : World) (s : ByteArray) (n : Nat) (hn : n ≤ 1000000) : Calls Tryz.prog 11 #[.string s, .int .i64 n] w fun e w' => e = .returned (.string (s.extract 0 n)) ∧ w = w' := by
 by_cases h : n < s.size
 · go_enter Tryz.func11, Tryz.ntmps11
   go_wp2
   go_ret
   exact ⟨by simp, rfl⟩
 · have e : s.extract 0 n = s := by
    apply ByteArray.ext
    simp
    omega
   have h' : ¬ (n : Int) < s.size := by omega
   go_enter Tryz.func11, Tryz.ntmps11
   go_wp2
   go_ret
   exact ⟨rfl, rfl⟩
theorem cut_bs (w : World) (S : ByteArray) (n : Nat) (hn : n ≤ 1000000) (m : List UInt8) (hm : S.data.toList.take n = m) : Calls Tryz.prog 11 #[.string S, .int .i64 n] w fun e w' => e = .returned (.string (bs m)) ∧ w = w' := by
 have h := Cut08 w S n hn
 rw [← bs_of S, bs_extract, hm] at h
 rw [bs_of S] at h
 exact h
end Go.Proofs.YtfpcelmekfdafaaGreatDoor.Kx
namespace Go.Proofs.YtfpcelmekfdafaaGreatDoor.Rf
open Go.RowKit Go.Proofs.YtfpcelmekfdafaaGreatDoor.Ow Go.Proofs.YtfpcelmekfdafaaGreatDoor.Kx Go.Proofs.YtfpcelmekfdafaaGreatDoor.Dg Go.Proofs.YtfpcelmekfdafaaGreatDoor.Ed
/-- a call, as an operation that may come up -/
theorem call_wp {P : Program} {o : Oper} {a : Act} {w : World} {K : Act → World → Prop} {Q : Exit → Act → World → Prop} (F : FuncId) (args : Array Value) (hv : ∀ W : World, (execOp a.eval o).run P W = .ok (.enter F args) W)
 (hc : Calls P F args w fun e w'' => ∃ v, e = .returned v ∧ K (a.put o.dst v) w'') : Oper.wp P o a w K Q := by
 unfold Oper.wp
 rw [hv]
 refine Calls.mono hc ?_
 rintro e w'' ⟨v, rfl, hk⟩
 exact hk
theorem PQ.neg {w : World} {b c n : Value} {X Y Z : F} {p : Pt} (hr : Rep p X Y Z) (hn : FR w n (0 - X)) (hb : FR w b Y) (hc : FR w c Z) : PQ w (.agg #[n, b, c]) p.neg :=
 ⟨_, _, _, ⟨_, _, _, rfl, hn, hb, hc⟩, ⟨by rw [hr.x]; show 0 - p.x * Z = (0 - p.x) * Z; grobner, hr.y, hr.z⟩⟩
theorem normR {P : Program} {md : Region.Mode} {ops : Array Oper} {Q : Exit → Act → World → Prop} {S : World → Prop} {fuel : Nat} {listed : Array Bool} {a : Act} {w : World} (l' : Array Bool) (h : listed = l') (hh : RL.H P md ops Q S w fuel l' a) : RL.H P md ops Q S w fuel listed a := h ▸ hh
theorem rest6 {T : Option Addr → Nat → Nat → Nat → World → Prop} {G : Prop} (F : Option Addr → Nat → Nat → Nat → World → Prop) (h1 : (∀ a n c b W, F a n c b W → T a n c b W) → G) (h2 : ∀ a n c b W, F a n c b W → T a n c b W) : G := h1 h2
theorem rest7 {T : Value → Value → Value → Value → Value → Option Addr → Nat → Nat → Option Addr → Nat → Nat → Option Addr → Nat → Nat → Nat → World → Prop} {G : Prop} (F : Value → Value → Value → Value → Value → Option Addr → Nat → Nat → Option Addr → Nat → Nat → Option Addr → Nat → Nat → Nat → World → Prop)
 (h1 : (∀ u v x y z a1 n1 c1 a2 n2 c2 a3 n3 c3 b W, F u v x y z a1 n1 c1 a2 n2 c2 a3 n3 c3 b W → T u v x y z a1 n1 c1 a2 n2 c2 a3 n3 c3 b W) → G) (h2 : ∀ u v x y z a1 n1 c1 a2 n2 c2 a3 n3 c3 b W, F u v x y z a1 n1 c1 a2 n2 c2 a3 n3 c3 b W → T u v x y z a1 n1 c1 a2 n2 c2 a3 n3 c3 b W) : G := h1 h2
theorem built3 (A1 A2 A3 : Option Addr) (n1 c1 n2 c2 n3 c3 : Nat) : Tryz.prog.built 40 [(0, .slice A1 n1 c1), (1, .slice A2 n2 c2), (2, .slice A3 n3 c3)] = some #[.slice A1 n1 c1, .slice A2 n2 c2, .slice A3 n3 c3] := by kernel_rfl
theorem ver8_any (w : World) (key m r s : List UInt8) (hk : key.length = 32) (hm : m.length ≤ 10000) (hr : r.length = 32) (hs : s.length = 32) :
 Calls Tryz.prog 15 #[.string (bs key), .string (bs m), .string (bs (r ++ s))] w fun e w' => e = .returned (.bool (ver key m r s)) ∧ Below w.heap.size w w' := by
 obtain ⟨KE, hKE⟩ : ∃ x, bs key = x := ⟨_, rfl⟩
 obtain ⟨M, hM⟩ : ∃ x, bs m = x := ⟨_, rfl⟩
 obtain ⟨SG, hSG⟩ : ∃ x, bs (r ++ s) = x := ⟨_, rfl⟩
 obtain ⟨SS, hSS⟩ : ∃ x, bs s = x := ⟨_, rfl⟩
 obtain ⟨SR, hSR⟩ : ∃ x, bs r = x := ⟨_, rfl⟩
 have HSS := ϕ (show ∀ W, (Instr.slice 9 (.string SG) (some (.int .i64 32)) none none).run Tryz.prog W = .ok (.string SS) W from fun W => by
  rw [run_slice_string_from_if (P := Tryz.prog) (w := W) 9 SG .i64 32 Tryz.underlying9, if_pos (by rw [← hSG, bs_size, List.length_append, hr, hs]; decide), ← hSG, bs_extract, bs_size, ← hSS]
  congr 3
  rw [List.take_of_length_le (Nat.le_refl _), show (32 : Int).toNat = r.length from hr.symm, List.drop_left])
 have HSR := ϕ (show ∀ W, (Instr.slice 9 (.string SG) none (some (.int .i64 32)) none).run Tryz.prog W = .ok (.string SR) W from fun W => by
  rw [run_slice_string_to_if (P := Tryz.prog) (w := W) 9 SG .i64 32 Tryz.underlying9, if_pos (by rw [← hSG, bs_size, List.length_append, hr, hs]; decide), ← hSG, bs_extract, ← hSR]
  congr 3
  rw [List.drop_zero, show (32 : Int).toNat = r.length from hr.symm, List.take_left])
 have HCF := ϕ (show ∀ W : World, Calls Tryz.prog 36 #[.string SS] W fun e w' => e = .returned (.bool (decide (leN s < Ed.L))) ∧ Below W.heap.size W w' from fun W => by rw [← hSS]; exact fits_any W (bs s) (by rw [bs_size, hs]))
 have HCR := ϕ (show ∀ (W : World) (vd : Value), FR W vd dE → Calls Tryz.prog 16 #[vd, .string KE] W fun e w' => (∃ u, e = .returned (.tuple #[u, .bool (dec key).isSome]) ∧ (∃ A1 n1 c1 A2 n2 c2 A3 n3 c3, u = .agg #[.slice A1 n1 c1, .slice A2 n2 c2, .slice A3 n3 c3]) ∧ ∀ p, dec key = some p → PQ w' u p) ∧ Below W.heap.size W w' from fun W vd h => by rw [← hKE]; exact read8_any W vd (bs key) h (by rw [bs_size, hk]))
 have HB := ϕ (Below.refl w.heap.size w)
 have z1 : SR.size ≤ 1000000 := by rw [← hSR, bs_size]; omega
 have z2 : KE.size ≤ 1000000 := by rw [← hKE, bs_size]; omega
 have z3 : M.size ≤ 1000000 := by rw [← hM, bs_size]; omega
 have z4 : (SR ++ KE).size ≤ 1000000 := by rw [ByteArray.size_append, ← hSR, ← hKE, bs_size, bs_size]; omega
 rw [hKE, hM, hSG]
 cases hd : dec key with
 | none =>
  have HVR := ϕ (show ver key m r s = false from ver_none hd)
  rw [hd] at HCR
  clear hKE hM hSG hSS hSR hd
  go_enter Tryz.func15, Tryz.ntmps15
  have tk1 := True.intro
  go_upto_region 3 with (first
   | (have _t := tk1; go_at_call 17; refine (D_any w).mono ?_; rintro e w1x ⟨⟨vd, rfl, hv⟩, hb⟩; skip;  have HD := ϕ hv; have HB := tm HB hb; clear hb hv _t tk1; have tk2 := True.intro)
   | (have _t := tk2; go_at_call 16; refine (HCR.out w1x _ HD.out).mono ?_; rintro e w2x ⟨⟨u, rfl, hf, hp⟩, hb⟩; have HB := tm HB hb; obtain ⟨aA, an, ac, aB, am, ad, aC, ak, ae, hu⟩ := hf; subst hu; clear hp; clear hb  _t tk2; have tk3 := True.intro))
  obtain ⟨ab, hab⟩ : ∃ n, w2x.heap.size = n := ⟨_, rfl⟩
  have HA9 := ϕ (show Below w2x.heap.size w2x (w2x.alloc (.cells #[.slice aA an ac, .slice aB am ad, .slice aC ak ae] 40)) from (Below.refl _ _).alloc (Nat.le_refl _) _)
  have HB := ϕ (HB.out.trans (HA9.out.mono HB.out.size))
  try rw [hab]
  clear hab HA9
  generalize (w2x.alloc (.cells #[.slice aA an ac, .slice aB am ad, .slice aC ak ae] 40)) = V3 at *
  go_wp2_with fail
  go_ret
  exact ⟨by rw [HVR.out]; rfl, HB.out⟩
 | some A =>
  have hvr := ver_some (m := m) (r := r) (s := s) hd
  rw [hd] at HCR
  by_cases hf : leN s < Ed.L
  · rw [decide_eq_true hf] at HCF hvr
    obtain ⟨kk, hkk⟩ : ∃ k, red (r ++ key ++ m) = k := ⟨_, rfl⟩
    have hkl : kk < Ed.L := by rw [← hkk]; exact red_lt _
    obtain ⟨D2, hD2⟩ : ∃ x, bs (dig5 (r ++ key ++ m)) = x := ⟨_, rfl⟩
    obtain ⟨K2, hK2⟩ : ∃ x, bs (toLe 32 kk) = x := ⟨_, rfl⟩
    have HC5 := ϕ (show ∀ W : World, Calls Tryz.prog 31 #[.string (SR ++ KE ++ M)] W fun e w' => e = .returned (.string D2) ∧ Below W.heap.size W w' from fun W => by rw [← hSR, ← hKE, ← hM, bs_app, bs_app, ← hD2]; exact sum_bs W _ (by rw [List.length_append, List.length_append]; omega))
    have HC6 := ϕ (show ∀ W : World, Calls Tryz.prog 30 #[.string D2] W fun e w' => e = .returned (.string K2) ∧ Below W.heap.size W w' from fun W => by rw [← hD2, ← hK2, ← hkk]; exact reduce_bs W _)
    have HCS := ϕ (show ∀ W : World, Calls Tryz.prog 25 #[.string SS] W fun e w' => (∃ u, e = .returned u ∧ Ns w' u (dig (leN s))) ∧ Below W.heap.size W w' from fun W => by rw [← hSS]; exact of_bs W s (by omega))
    have HCK := ϕ (show ∀ W : World, Calls Tryz.prog 25 #[.string K2] W fun e w' => (∃ u, e = .returned u ∧ Ns w' u (dig kk)) ∧ Below W.heap.size W w' from fun W => by
     rw [← hK2]
     have h := of_bs W (toLe 32 kk) (by rw [toLe_len]; omega)
     rwa [leN_l hkl] at h)
    obtain ⟨sn, hsn⟩ : ∃ n, leN s = n := ⟨_, rfl⟩
    have HLS := ϕ (show (dig sn).length ≤ 1000 from hsn ▸ len32 (n := 0) hs)
    have HLK := ϕ (show (dig kk).length ≤ 1000 from Nat.le_trans (dig_len_le (k := 16) (Nat.lt_trans hkl (by decide +kernel))) (by decide))
    rw [hsn] at HCS hvr
    rw [hkk, Bool.true_and] at hvr
    obtain ⟨pp, hpp⟩ : ∃ p, (Pt.mul sn base).add (Pt.mul kk A.neg) = p := ⟨_, rfl⟩
    obtain ⟨BE, hBE⟩ : ∃ x, bs (enc pp) = x := ⟨_, rfl⟩
    have HCB := ϕ (show ∀ (W : World) (v : Value), PQ W v ((Pt.mul sn base).add (Pt.mul kk A.neg)) → Calls Tryz.prog 23 #[v] W fun e w' => e = .returned (.string BE) ∧ Below W.heap.size W w' from fun W v h => by rw [hpp] at h; rw [← hBE]; exact bytes_bs W v _ h)
    rw [hpp] at hvr
    have HEQ := ϕ (show (BE.toList == SR.toList) = decide (enc pp = r) from by
     by_cases h : enc pp = r
     · rw [decide_eq_true h, ← hBE, ← hSR, h]; simp
     · rw [decide_eq_false h]
       exact str_ne (fun e => h (by rw [← hBE, ← hSR] at e; exact congrArg (fun x : ByteArray => x.data.toList) e)))
    obtain ⟨bb, hbb⟩ : ∃ b, decide (enc pp = r) = b := ⟨_, rfl⟩
    rw [hbb] at HEQ hvr
    have HVR := ϕ hvr
    clear hKE hM hSG hSS hSR hd hvr hf hkk hkl hD2 hK2 hsn hpp hBE hbb
    go_enter Tryz.func15, Tryz.ntmps15
    have tk1 := True.intro
    go_upto_region 3 with (first
     | (have _t := tk1; go_at_call 17; refine (D_any w).mono ?_; rintro e w1x ⟨⟨vd, rfl, hv⟩, hb⟩; skip;  have HD := ϕ hv; have HB := tm HB hb; clear hb hv _t tk1; have tk2 := True.intro)
     | (have _t := tk2; go_at_call 16; refine (HCR.out w1x _ HD.out).mono ?_; rintro e w2x ⟨⟨u, rfl, hf, hp⟩, hb⟩; have HD := ϕ (HD.out.below hb); have HB := tm HB hb; obtain ⟨aA, an, ac, aB, am, ad, aC, ak, ae, hu⟩ := hf; subst hu; have HPA := ϕ (hp A (Eq.refl (some A))); clear hp; clear hb  _t tk2; have tk3 := True.intro))
    obtain ⟨ab, hab⟩ : ∃ n, w2x.heap.size = n := ⟨_, rfl⟩
    have HA9 := ϕ (show Below w2x.heap.size w2x (w2x.alloc (.cells #[.slice aA an ac, .slice aB am ad, .slice aC ak ae] 40)) from (Below.refl _ _).alloc (Nat.le_refl _) _)
    have HBA := ϕ (show BK (w2x.alloc (.cells #[.slice aA an ac, .slice aB am ad, .slice aC ak ae] 40)) ab 40 #[.slice aA an ac, .slice aB am ad, .slice aC ak ae] from Rg.Blk.newAt hab.symm _ _)
    have HB := ϕ (HB.out.trans (HA9.out.mono HB.out.size))
    have HD := ϕ (HD.out.below HA9.out)
    have HPA := ϕ (HPA.out.below HA9.out)
    try rw [hab]
    clear hab HA9
    generalize (w2x.alloc (.cells #[.slice aA an ac, .slice aB am ad, .slice aC ak ae] 40)) = V3 at *
    have hss := HSS.out
    have hsr := HSR.out
    have tm1 := True.intro
    go_upto_region 6 with (first
     | (have _t := tm1; go_at_call 36; refine (HCF.out V3).mono ?_; rintro e w1x ⟨rfl, hb⟩; have HD := ϕ (HD.out.below hb); have HBA := ϕ (HBA.out.below hb); have HPA := ϕ (HPA.out.below hb); have HB := tm HB hb; clear hb  _t tm1; have tm2 := True.intro)
     | (have _t := tm2; go_at_call 31; refine (HC5.out w1x).mono ?_; rintro e w2x ⟨rfl, hb⟩; have HD := ϕ (HD.out.below hb); have HBA := ϕ (HBA.out.below hb); have HPA := ϕ (HPA.out.below hb); have HB := tm HB hb; clear hb  _t tm2; have tm3 := True.intro)
     | (have _t := tm3; go_at_call 30; refine (HC6.out w2x).mono ?_; rintro e w3x ⟨rfl, hb⟩; have HD := ϕ (HD.out.below hb); have HBA := ϕ (HBA.out.below hb); have HPA := ϕ (HPA.out.below hb); have HB := tm HB hb; clear hb  _t tm3; have tm4 := True.intro))
    clear hss hsr
    generalize w3x = V5 at *
    have HB5 := ϕ HB.out
    obtain ⟨X, Y0, Z0, ⟨q1, q2, q3, he, gx, gy, gz⟩, hrep⟩ := HPA.out
    cases he
    have HX := ϕ gx
    have HYY := ϕ gy
    have HZZ := ϕ gz
    have HREP := ϕ hrep
    clear gx gy gz hrep HPA
    refine RL.start (RL.Aft V5) (by kernel_rfl) (RL.Aft.drew (RL.Aft.refl V5)) ?_
    refine' RL.tv 0 ?hk43 ?_
    case hk43 => (intro W hSW; go_simp; try with_reducible rfl)
    try go_frame
    refine' RL.tv 1 ?hk44 ?_
    case hk44 => (intro W hSW; have x1 := (HBA.out.below hSW).cell 0 (v := .slice aA an ac) rfl; go_simp; try with_reducible rfl)
    try go_frame
    refine' RL.tv 3 ?hk45 ?_
    case hk45 => (intro W hSW; go_simp; try with_reducible rfl)
    try go_frame
    refine' RL.tv 4 ?hk46 ?_
    case hk46 => (intro W hSW; have x1 := (HBA.out.below hSW).cell 1 (v := .slice aB am ad) rfl; go_simp; try with_reducible rfl)
    try go_frame
    refine' RL.tv 5 ?hk47 ?_
    case hk47 => (intro W hSW; go_simp; try with_reducible rfl)
    try go_frame
    refine' RL.tv 6 ?hk48 ?_
    case hk48 => (intro W hSW; have x1 := (HBA.out.below hSW).cell 2 (v := .slice aC ak ae) rfl; go_simp; try with_reducible rfl)
    try go_frame
    have hx := HX.out.below (RL.Aft.drew (RL.Aft.refl V5))
    have hy := HYY.out.below (RL.Aft.drew (RL.Aft.refl V5))
    have hz := HZZ.out.below (RL.Aft.drew (RL.Aft.refl V5))
    have hd := HD.out.below (RL.Aft.drew (RL.Aft.refl V5))
    refine' rest6 (T := ?T6) (fun nA nn nc nb W => FR W (.slice nA nn nc) (0 - X) ∧ FR W (.slice aB am ad) Y0 ∧ FR W (.slice aC ak ae) Z0 ∧ FR W vd dE ∧ BK W nb 40 #[.slice none 0 0, .slice none 0 0, .slice none 0 0] ∧ V5.heap.size ≤ nb) ?hm6 ?hr6
    case hm6 =>
     intro hrest6
     refine RL.step2 (i := 2) (j := 8) rfl rfl (by kernel_rfl) (by rfl) (by rfl) (fun y1 hly1 hsy1 K hK => ?_) (fun y1 hly1 hsy1 K hK => ?_)
     · refine call_wp 37 #[.slice none 0 0, .slice aA an ac] ?hv2 ?hc2
       case hv2 => (intro W; go_simp; try with_reducible rfl)
       replace hx := hx.below hly1
       replace hy := hy.below hly1
       replace hz := hz.below hly1
       replace hd := hd.below hly1
       refine (sub_any y1 _ _ _ _ (FR.nil _) hx).mono ?_
       rintro e y12 ⟨⟨u2, rfl, h2⟩, hby1⟩
       replace hx := hx.below hby1
       replace hy := hy.below hby1
       replace hz := hz.below hby1
       replace hd := hd.below hby1
       refine ⟨_, rfl, hK.out _ _ (RL.Aft.lat hsy1 hby1) ?_⟩
       clear hK
       clear hly1 hsy1 hby1
       try go_frame
       obtain ⟨nA, nn, nc, hu2⟩ := h2.form
       subst hu2
       refine RL.tw 7 (v := .agg #[.slice nA nn nc, .slice aB am ad, .slice aC ak ae]) rfl (fun W hSW => Kx.run_build_op 40 _ rfl #[(0, .slice nA nn nc), (1, .slice aB am ad), (2, .slice aC ak ae)] (by go_simp) #[.slice nA nn nc, .slice aB am ad, .slice aC ak ae] (built3 _ _ _ _ _ _ _ _ _)) ?_
       try go_frame
       refine RL.sk 8 (fun y3 hly3 hsy3 K hK => ?_)
       go_simp
       replace hx := hx.below hly3
       replace hy := hy.below hly3
       replace hz := hz.below hly3
       replace hd := hd.below hly3
       replace h2 := h2.below hly3
       obtain ⟨nb, hnb⟩ : ∃ n, y3.heap.size = n := ⟨_, rfl⟩
       have hba : Below y3.heap.size y3 (y3.alloc (.cells #[.slice none 0 0, .slice none 0 0, .slice none 0 0] 40)) := (Below.refl _ _).alloc (Nat.le_refl _) _
       have hblk : BK (y3.alloc (.cells #[.slice none 0 0, .slice none 0 0, .slice none 0 0] 40)) nb 40 #[.slice none 0 0, .slice none 0 0, .slice none 0 0] := Rg.Blk.newAt hnb.symm _ _
       have hblw : V5.heap.size ≤ nb := by rw [← hnb]; exact (show RL.Aft V5 y3 from hsy3).size
       replace hx := hx.below hba
       replace hy := hy.below hba
       replace hz := hz.below hba
       replace hd := hd.below hba
       replace h2 := h2.below hba
       refine hK.out _ _ (RL.Aft.alloc hsy3 _) ?_
       try rw [hnb]
       clear hK hly3 hsy3 hba hnb
       try go_frame
       generalize hgy : y3.alloc (.cells #[.slice none 0 0, .slice none 0 0, .slice none 0 0] 40) = y3y at *
       clear hgy
       refine normR #[true, true, true, true, true, true, true, true, true, false] (by kernel_rfl) ?_
       exact hrest6 nA nn nc nb _ ⟨h2, hy, hz, hd, hblk, hblw⟩
     · go_simp
       replace hx := hx.below hly1
       replace hy := hy.below hly1
       replace hz := hz.below hly1
       replace hd := hd.below hly1
       obtain ⟨nb, hnb⟩ : ∃ n, y1.heap.size = n := ⟨_, rfl⟩
       have hba : Below y1.heap.size y1 (y1.alloc (.cells #[.slice none 0 0, .slice none 0 0, .slice none 0 0] 40)) := (Below.refl _ _).alloc (Nat.le_refl _) _
       have hblk : BK (y1.alloc (.cells #[.slice none 0 0, .slice none 0 0, .slice none 0 0] 40)) nb 40 #[.slice none 0 0, .slice none 0 0, .slice none 0 0] := Rg.Blk.newAt hnb.symm _ _
       have hblw : V5.heap.size ≤ nb := by rw [← hnb]; exact (show RL.Aft V5 y1 from hsy1).size
       replace hx := hx.below hba
       replace hy := hy.below hba
       replace hz := hz.below hba
       replace hd := hd.below hba
       refine hK.out _ _ (RL.Aft.alloc hsy1 _) ?_
       try rw [hnb]
       clear hK hly1 hsy1 hba hnb
       try go_frame
       generalize hgy : y1.alloc (.cells #[.slice none 0 0, .slice none 0 0, .slice none 0 0] 40) = y1y at *
       clear hgy
       refine' RL.stepCall (i := 2) 37 #[.slice none 0 0, .slice aA an ac] rfl (by kernel_rfl) (by rfl) ?hv5 ?hc5
       case hv5 => (intro W; go_simp; try with_reducible rfl)
       intro y4 hly4 hsy4
       replace hx := hx.below hly4
       replace hy := hy.below hly4
       replace hz := hz.below hly4
       replace hd := hd.below hly4
       replace hblk := hblk.below hly4
       refine (sub_any y4 _ _ _ _ (FR.nil _) hx).mono ?_
       rintro e y42 ⟨⟨u2, rfl, h2⟩, hby4⟩
       replace hx := hx.below hby4
       replace hy := hy.below hby4
       replace hz := hz.below hby4
       replace hd := hd.below hby4
       replace hblk := hblk.below hby4
       refine ⟨_, rfl, RL.Aft.lat hsy4 hby4, ?_⟩
       clear hly4 hsy4 hby4
       try go_frame
       obtain ⟨nA, nn, nc, hu2⟩ := h2.form
       subst hu2
       refine RL.tw 7 (v := .agg #[.slice nA nn nc, .slice aB am ad, .slice aC ak ae]) rfl (fun W hSW => Kx.run_build_op 40 _ rfl #[(0, .slice nA nn nc), (1, .slice aB am ad), (2, .slice aC ak ae)] (by go_simp) #[.slice nA nn nc, .slice aB am ad, .slice aC ak ae] (built3 _ _ _ _ _ _ _ _ _)) ?_
       try go_frame
       refine normR #[true, true, true, true, true, true, true, true, true, false] (by kernel_rfl) ?_
       exact hrest6 nA nn nc nb _ ⟨h2, hy, hz, hd, hblk, hblw⟩
    case hr6 =>
     clear hx hy hz hd
     rintro nA nn nc nb W6 ⟨h2, hy, hz, hd, hblk, hblw⟩
     refine RL.sk 9 (fun ws hlws hsws K hK => ?_)
     replace hblk := hblk.below hlws
     replace h2 := h2.below hlws
     replace hy := hy.below hlws
     replace hz := hz.below hlws
     replace hd := hd.below hlws
     refine Kx.store_blk_op 40 _ _ rfl nb #[.slice nA nn nc, .slice aB am ad, .slice aC ak ae] #[.slice none 0 0, .slice none 0 0, .slice none 0 0] 40 rfl rfl hblk (by kernel_rfl) rfl (by simp [Value.oneCell']) ?_
     intro X9 hX hgX
     have hq := (PQ.neg HREP.out h2 hy hz).grown hgX hblk nil3
     have hd := hd.grown hgX hblk nil3
     have hbx : Below V5.heap.size V5 X9 := Below.grown (show RL.Aft V5 ws from hsws) hgX (show RL.Aft V5 ws from hsws).size (fun j e => by cases e; exact hblw)
     refine hK.out _ _ hbx ?_
     clear hK
     try go_frame
     refine RL.done (by kernel_rfl) (fun V6 hlV6 hsV6 => ?_)
     have HBN := ϕ (show BK V6 nb 40 #[.slice nA nn nc, .slice aB am ad, .slice aC ak ae] from BK.below hX hlV6)
     have HNG := ϕ (hq.below hlV6)
     have HD := ϕ (hd.below hlV6)
     have HB6 := ϕ (HB5.out.trans (Below.mono (show RL.Aft V5 V6 from hsV6) HB5.out.size))
     clear hq hd hX hgX hbx hblk hblw hlws hsws hlV6 hsV6 hy hz h2 HBA HX HYY HZZ HB5
     go_upto_region 7 with fail
     refine RL.start (RL.Aft V6) (by kernel_rfl) (RL.Aft.drew (RL.Aft.refl V6)) ?_
     refine' RL.tv 0 ?hk49 ?_
     case hk49 => (intro W hSW; go_simp; try with_reducible rfl)
     try go_frame
     refine' RL.tv 1 ?hk50 ?_
     case hk50 => (intro W hSW; go_simp; try with_reducible rfl)
     try go_frame
     refine' RL.tv 2 ?hk51 ?_
     case hk51 => (intro W hSW; go_simp; try with_reducible rfl)
     try go_frame
     refine' RL.tv 3 ?hk52 ?_
     case hk52 => (intro W hSW; have x1 := HSS.out W; go_simp; try with_reducible rfl)
     try go_frame
     refine' RL.tv 7 ?hk53 ?_
     case hk53 => (intro W hSW; go_simp; try with_reducible rfl)
     try go_frame
     refine' RL.tv 8 ?hk54 ?_
     case hk54 => (intro W hSW; go_simp; try with_reducible rfl)
     try go_frame
     refine RL.tw 10 (v := .agg #[.slice nA nn nc, .slice aB am ad, .slice aC ak ae]) rfl (fun W hSW => RT.run_row 40 _ rfl _ rfl _ _ (HBN.out.below hSW) Tryz.underlying40 rfl (by kernel_rfl)) ?_
     try go_frame
     have hd := HD.out.below (RL.Aft.drew (RL.Aft.refl V6))
     have hng := HNG.out.below (RL.Aft.drew (RL.Aft.refl V6))
     refine' rest7 (T := ?T7) (fun u4 u5 u6 u9 u11 lA ln lc lB lm ld lC lk le tb W => BK W tb 40 #[.slice none 0 0, .slice none 0 0, .slice none 0 0] ∧ PQ W (.agg #[.slice lA ln lc, .slice lB lm ld, .slice lC lk le]) ((Pt.mul sn base).add (Pt.mul kk A.neg)) ∧ V6.heap.size ≤ tb) ?hm7 ?hr7
     case hm7 =>
      intro hrest7
      refine RL.step2 (i := 4) (j := 13) rfl rfl (by kernel_rfl) (by rfl) (by rfl) (fun y6 hly6 hsy6 K hK => ?_) (fun y6 hly6 hsy6 K hK => ?_)
      · refine call_wp 25 #[.string SS] ?hv7 ?hc7
        case hv7 => (intro W; go_simp; try with_reducible rfl)
        replace hd := hd.below hly6
        replace hng := hng.below hly6
        refine (HCS.out y6).mono ?_
        rintro e y62 ⟨⟨u4, rfl, h4⟩, hby6⟩
        replace hd := hd.below hby6
        replace hng := hng.below hby6
        refine ⟨_, rfl, hK.out _ _ (RL.Aft.lat hsy6 hby6) ?_⟩
        clear hK
        clear hly6 hsy6 hby6
        try go_frame
        refine RL.step2 (i := 5) (j := 13) rfl rfl (by kernel_rfl) (by rfl) (by rfl) (fun y8 hly8 hsy8 K hK => ?_) (fun y8 hly8 hsy8 K hK => ?_)
        · refine call_wp 26 #[] ?hv9 ?hc9
          case hv9 => (intro W; go_simp; try with_reducible rfl)
          replace hd := hd.below hly8
          replace hng := hng.below hly8
          replace h4 := h4.below hly8
          refine (base8_any y8).mono ?_
          rintro e y82 ⟨⟨u5, rfl, h5⟩, hby8⟩
          replace hd := hd.below hby8
          replace hng := hng.below hby8
          replace h4 := h4.below hby8
          refine ⟨_, rfl, hK.out _ _ (RL.Aft.lat hsy8 hby8) ?_⟩
          clear hK
          clear hly8 hsy8 hby8
          try go_frame
          refine RL.step2 (i := 6) (j := 13) rfl rfl (by kernel_rfl) (by rfl) (by rfl) (fun y10 hly10 hsy10 K hK => ?_) (fun y10 hly10 hsy10 K hK => ?_)
          · refine call_wp 24 #[vd, u4, u5] ?hv11 ?hc11
            case hv11 => (intro W; go_simp; try with_reducible rfl)
            replace hd := hd.below hly10
            replace hng := hng.below hly10
            replace h4 := h4.below hly10
            replace h5 := h5.below hly10
            refine (times_any y10 _ _ _ _ base hd h4 HLS.out h5).mono ?_
            rintro e y102 ⟨⟨u6, rfl, h6⟩, hby10⟩
            replace hd := hd.below hby10
            replace hng := hng.below hby10
            replace h4 := h4.below hby10
            replace h5 := h5.below hby10
            refine ⟨_, rfl, hK.out _ _ (RL.Aft.lat hsy10 hby10) ?_⟩
            clear hK
            clear hly10 hsy10 hby10
            try go_frame
            refine RL.step2 (i := 9) (j := 13) rfl rfl (by kernel_rfl) (by rfl) (by rfl) (fun y12 hly12 hsy12 K hK => ?_) (fun y12 hly12 hsy12 K hK => ?_)
            · refine call_wp 25 #[.string K2] ?hv13 ?hc13
              case hv13 => (intro W; go_simp; try with_reducible rfl)
              replace hd := hd.below hly12
              replace hng := hng.below hly12
              replace h4 := h4.below hly12
              replace h5 := h5.below hly12
              replace h6 := h6.below hly12
              refine (HCK.out y12).mono ?_
              rintro e y122 ⟨⟨u9, rfl, h9⟩, hby12⟩
              replace hd := hd.below hby12
              replace hng := hng.below hby12
              replace h4 := h4.below hby12
              replace h5 := h5.below hby12
              replace h6 := h6.below hby12
              refine ⟨_, rfl, hK.out _ _ (RL.Aft.lat hsy12 hby12) ?_⟩
              clear hK
              clear hly12 hsy12 hby12
              try go_frame
              refine RL.step2 (i := 11) (j := 13) rfl rfl (by kernel_rfl) (by rfl) (by rfl) (fun y14 hly14 hsy14 K hK => ?_) (fun y14 hly14 hsy14 K hK => ?_)
              · refine call_wp 24 #[vd, u9, .agg #[.slice nA nn nc, .slice aB am ad, .slice aC ak ae]] ?hv15 ?hc15
                case hv15 => (intro W; go_simp; try with_reducible rfl)
                replace hd := hd.below hly14
                replace hng := hng.below hly14
                replace h4 := h4.below hly14
                replace h5 := h5.below hly14
                replace h6 := h6.below hly14
                replace h9 := h9.below hly14
                refine (times_any y14 _ _ _ _ A.neg hd h9 HLK.out hng).mono ?_
                rintro e y142 ⟨⟨u11, rfl, h11⟩, hby14⟩
                replace hd := hd.below hby14
                replace hng := hng.below hby14
                replace h4 := h4.below hby14
                replace h5 := h5.below hby14
                replace h6 := h6.below hby14
                replace h9 := h9.below hby14
                refine ⟨_, rfl, hK.out _ _ (RL.Aft.lat hsy14 hby14) ?_⟩
                clear hK
                clear hly14 hsy14 hby14
                try go_frame
                refine RL.step2 (i := 12) (j := 13) rfl rfl (by kernel_rfl) (by rfl) (by rfl) (fun y16 hly16 hsy16 K hK => ?_) (fun y16 hly16 hsy16 K hK => ?_)
                · refine call_wp 38 #[vd, u6, u11] ?hv17 ?hc17
                  case hv17 => (intro W; go_simp; try with_reducible rfl)
                  replace hd := hd.below hly16
                  replace hng := hng.below hly16
                  replace h4 := h4.below hly16
                  replace h5 := h5.below hly16
                  replace h6 := h6.below hly16
                  replace h9 := h9.below hly16
                  replace h11 := h11.below hly16
                  refine (add_pq y16 _ _ _ _ _ hd h6 h11).mono ?_
                  rintro e y162 ⟨⟨u12, rfl, h12⟩, hby16⟩
                  replace hd := hd.below hby16
                  replace hng := hng.below hby16
                  replace h4 := h4.below hby16
                  replace h5 := h5.below hby16
                  replace h6 := h6.below hby16
                  replace h9 := h9.below hby16
                  replace h11 := h11.below hby16
                  refine ⟨_, rfl, hK.out _ _ (RL.Aft.lat hsy16 hby16) ?_⟩
                  clear hK
                  clear hly16 hsy16 hby16
                  try go_frame
                  obtain ⟨lA, ln, lc, lB, lm, ld, lC, lk, le, hu12⟩ := h12.form
                  subst hu12
                  refine RL.sk 13 (fun y18 hly18 hsy18 K hK => ?_)
                  go_simp
                  replace hd := hd.below hly18
                  replace hng := hng.below hly18
                  replace h4 := h4.below hly18
                  replace h5 := h5.below hly18
                  replace h6 := h6.below hly18
                  replace h9 := h9.below hly18
                  replace h11 := h11.below hly18
                  replace h12 := h12.below hly18
                  obtain ⟨tb, htb⟩ : ∃ n, y18.heap.size = n := ⟨_, rfl⟩
                  have hba : Below y18.heap.size y18 (y18.alloc (.cells #[.slice none 0 0, .slice none 0 0, .slice none 0 0] 40)) := (Below.refl _ _).alloc (Nat.le_refl _) _
                  have hblk : BK (y18.alloc (.cells #[.slice none 0 0, .slice none 0 0, .slice none 0 0] 40)) tb 40 #[.slice none 0 0, .slice none 0 0, .slice none 0 0] := Rg.Blk.newAt htb.symm _ _
                  have hblw : V6.heap.size ≤ tb := by rw [← htb]; exact (show RL.Aft V6 y18 from hsy18).size
                  replace hd := hd.below hba
                  replace hng := hng.below hba
                  replace h4 := h4.below hba
                  replace h5 := h5.below hba
                  replace h6 := h6.below hba
                  replace h9 := h9.below hba
                  replace h11 := h11.below hba
                  replace h12 := h12.below hba
                  refine hK.out _ _ (RL.Aft.alloc hsy18 _) ?_
                  try rw [htb]
                  clear hK hly18 hsy18 hba htb
                  try go_frame
                  generalize hgy : y18.alloc (.cells #[.slice none 0 0, .slice none 0 0, .slice none 0 0] 40) = y18y at *
                  clear hgy
                  refine normR #[true, true, true, true, true, true, true, true, true, true, true, true, true, true, false] (by kernel_rfl) ?_
                  exact hrest7 u4 u5 u6 u9 u11 lA ln lc lB lm ld lC lk le tb _ ⟨hblk, h12, hblw⟩
                · go_simp
                  replace hd := hd.below hly16
                  replace hng := hng.below hly16
                  replace h4 := h4.below hly16
                  replace h5 := h5.below hly16
                  replace h6 := h6.below hly16
                  replace h9 := h9.below hly16
                  replace h11 := h11.below hly16
                  obtain ⟨tb, htb⟩ : ∃ n, y16.heap.size = n := ⟨_, rfl⟩
                  have hba : Below y16.heap.size y16 (y16.alloc (.cells #[.slice none 0 0, .slice none 0 0, .slice none 0 0] 40)) := (Below.refl _ _).alloc (Nat.le_refl _) _
                  have hblk : BK (y16.alloc (.cells #[.slice none 0 0, .slice none 0 0, .slice none 0 0] 40)) tb 40 #[.slice none 0 0, .slice none 0 0, .slice none 0 0] := Rg.Blk.newAt htb.symm _ _
                  have hblw : V6.heap.size ≤ tb := by rw [← htb]; exact (show RL.Aft V6 y16 from hsy16).size
                  replace hd := hd.below hba
                  replace hng := hng.below hba
                  replace h4 := h4.below hba
                  replace h5 := h5.below hba
                  replace h6 := h6.below hba
                  replace h9 := h9.below hba
                  replace h11 := h11.below hba
                  refine hK.out _ _ (RL.Aft.alloc hsy16 _) ?_
                  try rw [htb]
                  clear hK hly16 hsy16 hba htb
                  try go_frame
                  generalize hgy : y16.alloc (.cells #[.slice none 0 0, .slice none 0 0, .slice none 0 0] 40) = y16y at *
                  clear hgy
                  refine' RL.stepCall (i := 12) 38 #[vd, u6, u11] rfl (by kernel_rfl) (by rfl) ?hv20 ?hc20
                  case hv20 => (intro W; go_simp; try with_reducible rfl)
                  intro y19 hly19 hsy19
                  replace hd := hd.below hly19
                  replace hng := hng.below hly19
                  replace h4 := h4.below hly19
                  replace h5 := h5.below hly19
                  replace h6 := h6.below hly19
                  replace h9 := h9.below hly19
                  replace h11 := h11.below hly19
                  replace hblk := hblk.below hly19
                  refine (add_pq y19 _ _ _ _ _ hd h6 h11).mono ?_
                  rintro e y192 ⟨⟨u12, rfl, h12⟩, hby19⟩
                  replace hd := hd.below hby19
                  replace hng := hng.below hby19
                  replace h4 := h4.below hby19
                  replace h5 := h5.below hby19
                  replace h6 := h6.below hby19
                  replace h9 := h9.below hby19
                  replace h11 := h11.below hby19
                  replace hblk := hblk.below hby19
                  refine ⟨_, rfl, RL.Aft.lat hsy19 hby19, ?_⟩
                  clear hly19 hsy19 hby19
                  try go_frame
                  obtain ⟨lA, ln, lc, lB, lm, ld, lC, lk, le, hu12⟩ := h12.form
                  subst hu12
                  refine normR #[true, true, true, true, true, true, true, true, true, true, true, true, true, true, false] (by kernel_rfl) ?_
                  exact hrest7 u4 u5 u6 u9 u11 lA ln lc lB lm ld lC lk le tb _ ⟨hblk, h12, hblw⟩
              · go_simp
                replace hd := hd.below hly14
                replace hng := hng.below hly14
                replace h4 := h4.below hly14
                replace h5 := h5.below hly14
                replace h6 := h6.below hly14
                replace h9 := h9.below hly14
                obtain ⟨tb, htb⟩ : ∃ n, y14.heap.size = n := ⟨_, rfl⟩
                have hba : Below y14.heap.size y14 (y14.alloc (.cells #[.slice none 0 0, .slice none 0 0, .slice none 0 0] 40)) := (Below.refl _ _).alloc (Nat.le_refl _) _
                have hblk : BK (y14.alloc (.cells #[.slice none 0 0, .slice none 0 0, .slice none 0 0] 40)) tb 40 #[.slice none 0 0, .slice none 0 0, .slice none 0 0] := Rg.Blk.newAt htb.symm _ _
                have hblw : V6.heap.size ≤ tb := by rw [← htb]; exact (show RL.Aft V6 y14 from hsy14).size
                replace hd := hd.below hba
                replace hng := hng.below hba
                replace h4 := h4.below hba
                replace h5 := h5.below hba
                replace h6 := h6.below hba
                replace h9 := h9.below hba
                refine hK.out _ _ (RL.Aft.alloc hsy14 _) ?_
                try rw [htb]
                clear hK hly14 hsy14 hba htb
                try go_frame
                generalize hgy : y14.alloc (.cells #[.slice none 0 0, .slice none 0 0, .slice none 0 0] 40) = y14y at *
                clear hgy
                refine' RL.stepCall (i := 11) 24 #[vd, u9, .agg #[.slice nA nn nc, .slice aB am ad, .slice aC ak ae]] rfl (by kernel_rfl) (by rfl) ?hv22 ?hc22
                case hv22 => (intro W; go_simp; try with_reducible rfl)
                intro y21 hly21 hsy21
                replace hd := hd.below hly21
                replace hng := hng.below hly21
                replace h4 := h4.below hly21
                replace h5 := h5.below hly21
                replace h6 := h6.below hly21
                replace h9 := h9.below hly21
                replace hblk := hblk.below hly21
                refine (times_any y21 _ _ _ _ A.neg hd h9 HLK.out hng).mono ?_
                rintro e y212 ⟨⟨u11, rfl, h11⟩, hby21⟩
                replace hd := hd.below hby21
                replace hng := hng.below hby21
                replace h4 := h4.below hby21
                replace h5 := h5.below hby21
                replace h6 := h6.below hby21
                replace h9 := h9.below hby21
                replace hblk := hblk.below hby21
                refine ⟨_, rfl, RL.Aft.lat hsy21 hby21, ?_⟩
                clear hly21 hsy21 hby21
                try go_frame
                refine' RL.stepCall (i := 12) 38 #[vd, u6, u11] rfl (by kernel_rfl) (by rfl) ?hv24 ?hc24
                case hv24 => (intro W; go_simp; try with_reducible rfl)
                intro y23 hly23 hsy23
                replace hd := hd.below hly23
                replace hng := hng.below hly23
                replace h4 := h4.below hly23
                replace h5 := h5.below hly23
                replace h6 := h6.below hly23
                replace h9 := h9.below hly23
                replace hblk := hblk.below hly23
                replace h11 := h11.below hly23
                refine (add_pq y23 _ _ _ _ _ hd h6 h11).mono ?_
                rintro e y232 ⟨⟨u12, rfl, h12⟩, hby23⟩
                replace hd := hd.below hby23
                replace hng := hng.below hby23
                replace h4 := h4.below hby23
                replace h5 := h5.below hby23
                replace h6 := h6.below hby23
                replace h9 := h9.below hby23
                replace hblk := hblk.below hby23
                replace h11 := h11.below hby23
                refine ⟨_, rfl, RL.Aft.lat hsy23 hby23, ?_⟩
                clear hly23 hsy23 hby23
                try go_frame
                obtain ⟨lA, ln, lc, lB, lm, ld, lC, lk, le, hu12⟩ := h12.form
                subst hu12
                refine normR #[true, true, true, true, true, true, true, true, true, true, true, true, true, true, false] (by kernel_rfl) ?_
                exact hrest7 u4 u5 u6 u9 u11 lA ln lc lB lm ld lC lk le tb _ ⟨hblk, h12, hblw⟩
            · go_simp
              replace hd := hd.below hly12
              replace hng := hng.below hly12
              replace h4 := h4.below hly12
              replace h5 := h5.below hly12
              replace h6 := h6.below hly12
              obtain ⟨tb, htb⟩ : ∃ n, y12.heap.size = n := ⟨_, rfl⟩
              have hba : Below y12.heap.size y12 (y12.alloc (.cells #[.slice none 0 0, .slice none 0 0, .slice none 0 0] 40)) := (Below.refl _ _).alloc (Nat.le_refl _) _
              have hblk : BK (y12.alloc (.cells #[.slice none 0 0, .slice none 0 0, .slice none 0 0] 40)) tb 40 #[.slice none 0 0, .slice none 0 0, .slice none 0 0] := Rg.Blk.newAt htb.symm _ _
              have hblw : V6.heap.size ≤ tb := by rw [← htb]; exact (show RL.Aft V6 y12 from hsy12).size
              replace hd := hd.below hba
              replace hng := hng.below hba
              replace h4 := h4.below hba
              replace h5 := h5.below hba
              replace h6 := h6.below hba
              refine hK.out _ _ (RL.Aft.alloc hsy12 _) ?_
              try rw [htb]
              clear hK hly12 hsy12 hba htb
              try go_frame
              generalize hgy : y12.alloc (.cells #[.slice none 0 0, .slice none 0 0, .slice none 0 0] 40) = y12y at *
              clear hgy
              refine' RL.stepCall (i := 9) 25 #[.string K2] rfl (by kernel_rfl) (by rfl) ?hv26 ?hc26
              case hv26 => (intro W; go_simp; try with_reducible rfl)
              intro y25 hly25 hsy25
              replace hd := hd.below hly25
              replace hng := hng.below hly25
              replace h4 := h4.below hly25
              replace h5 := h5.below hly25
              replace h6 := h6.below hly25
              replace hblk := hblk.below hly25
              refine (HCK.out y25).mono ?_
              rintro e y252 ⟨⟨u9, rfl, h9⟩, hby25⟩
              replace hd := hd.below hby25
              replace hng := hng.below hby25
              replace h4 := h4.below hby25
              replace h5 := h5.below hby25
              replace h6 := h6.below hby25
              replace hblk := hblk.below hby25
              refine ⟨_, rfl, RL.Aft.lat hsy25 hby25, ?_⟩
              clear hly25 hsy25 hby25
              try go_frame
              refine' RL.stepCall (i := 11) 24 #[vd, u9, .agg #[.slice nA nn nc, .slice aB am ad, .slice aC ak ae]] rfl (by kernel_rfl) (by rfl) ?hv28 ?hc28
              case hv28 => (intro W; go_simp; try with_reducible rfl)
              intro y27 hly27 hsy27
              replace hd := hd.below hly27
              replace hng := hng.below hly27
              replace h4 := h4.below hly27
              replace h5 := h5.below hly27
              replace h6 := h6.below hly27
              replace hblk := hblk.below hly27
              replace h9 := h9.below hly27
              refine (times_any y27 _ _ _ _ A.neg hd h9 HLK.out hng).mono ?_
              rintro e y272 ⟨⟨u11, rfl, h11⟩, hby27⟩
              replace hd := hd.below hby27
              replace hng := hng.below hby27
              replace h4 := h4.below hby27
              replace h5 := h5.below hby27
              replace h6 := h6.below hby27
              replace hblk := hblk.below hby27
              replace h9 := h9.below hby27
              refine ⟨_, rfl, RL.Aft.lat hsy27 hby27, ?_⟩
              clear hly27 hsy27 hby27
              try go_frame
              refine' RL.stepCall (i := 12) 38 #[vd, u6, u11] rfl (by kernel_rfl) (by rfl) ?hv30 ?hc30
              case hv30 => (intro W; go_simp; try with_reducible rfl)
              intro y29 hly29 hsy29
              replace hd := hd.below hly29
              replace hng := hng.below hly29
              replace h4 := h4.below hly29
              replace h5 := h5.below hly29
              replace h6 := h6.below hly29
              replace hblk := hblk.below hly29
              replace h9 := h9.below hly29
              replace h11 := h11.below hly29
              refine (add_pq y29 _ _ _ _ _ hd h6 h11).mono ?_
              rintro e y292 ⟨⟨u12, rfl, h12⟩, hby29⟩
              replace hd := hd.below hby29
              replace hng := hng.below hby29
              replace h4 := h4.below hby29
              replace h5 := h5.below hby29
              replace h6 := h6.below hby29
              replace hblk := hblk.below hby29
              replace h9 := h9.below hby29
              replace h11 := h11.below hby29
              refine ⟨_, rfl, RL.Aft.lat hsy29 hby29, ?_⟩
              clear hly29 hsy29 hby29
              try go_frame
              obtain ⟨lA, ln, lc, lB, lm, ld, lC, lk, le, hu12⟩ := h12.form
              subst hu12
              refine normR #[true, true, true, true, true, true, true, true, true, true, true, true, true, true, false] (by kernel_rfl) ?_
              exact hrest7 u4 u5 u6 u9 u11 lA ln lc lB lm ld lC lk le tb _ ⟨hblk, h12, hblw⟩
          · go_simp
            replace hd := hd.below hly10
            replace hng := hng.below hly10
            replace h4 := h4.below hly10
            replace h5 := h5.below hly10
            obtain ⟨tb, htb⟩ : ∃ n, y10.heap.size = n := ⟨_, rfl⟩
            have hba : Below y10.heap.size y10 (y10.alloc (.cells #[.slice none 0 0, .slice none 0 0, .slice none 0 0] 40)) := (Below.refl _ _).alloc (Nat.le_refl _) _
            have hblk : BK (y10.alloc (.cells #[.slice none 0 0, .slice none 0 0, .slice none 0 0] 40)) tb 40 #[.slice none 0 0, .slice none 0 0, .slice none 0 0] := Rg.Blk.newAt htb.symm _ _
            have hblw : V6.heap.size ≤ tb := by rw [← htb]; exact (show RL.Aft V6 y10 from hsy10).size
            replace hd := hd.below hba
            replace hng := hng.below hba
            replace h4 := h4.below hba
            replace h5 := h5.below hba
            refine hK.out _ _ (RL.Aft.alloc hsy10 _) ?_
            try rw [htb]
            clear hK hly10 hsy10 hba htb
            try go_frame
            generalize hgy : y10.alloc (.cells #[.slice none 0 0, .slice none 0 0, .slice none 0 0] 40) = y10y at *
            clear hgy
            refine' RL.stepCall (i := 6) 24 #[vd, u4, u5] rfl (by kernel_rfl) (by rfl) ?hv32 ?hc32
            case hv32 => (intro W; go_simp; try with_reducible rfl)
            intro y31 hly31 hsy31
            replace hd := hd.below hly31
            replace hng := hng.below hly31
            replace h4 := h4.below hly31
            replace h5 := h5.below hly31
            replace hblk := hblk.below hly31
            refine (times_any y31 _ _ _ _ base hd h4 HLS.out h5).mono ?_
            rintro e y312 ⟨⟨u6, rfl, h6⟩, hby31⟩
            replace hd := hd.below hby31
            replace hng := hng.below hby31
            replace h4 := h4.below hby31
            replace h5 := h5.below hby31
            replace hblk := hblk.below hby31
            refine ⟨_, rfl, RL.Aft.lat hsy31 hby31, ?_⟩
            clear hly31 hsy31 hby31
            try go_frame
            refine' RL.stepCall (i := 9) 25 #[.string K2] rfl (by kernel_rfl) (by rfl) ?hv34 ?hc34
            case hv34 => (intro W; go_simp; try with_reducible rfl)
            intro y33 hly33 hsy33
            replace hd := hd.below hly33
            replace hng := hng.below hly33
            replace h4 := h4.below hly33
            replace h5 := h5.below hly33
            replace hblk := hblk.below hly33
            replace h6 := h6.below hly33
            refine (HCK.out y33).mono ?_
            rintro e y332 ⟨⟨u9, rfl, h9⟩, hby33⟩
            replace hd := hd.below hby33
            replace hng := hng.below hby33
            replace h4 := h4.below hby33
            replace h5 := h5.below hby33
            replace hblk := hblk.below hby33
            replace h6 := h6.below hby33
            refine ⟨_, rfl, RL.Aft.lat hsy33 hby33, ?_⟩
            clear hly33 hsy33 hby33
            try go_frame
            refine' RL.stepCall (i := 11) 24 #[vd, u9, .agg #[.slice nA nn nc, .slice aB am ad, .slice aC ak ae]] rfl (by kernel_rfl) (by rfl) ?hv36 ?hc36
            case hv36 => (intro W; go_simp; try with_reducible rfl)
            intro y35 hly35 hsy35
            replace hd := hd.below hly35
            replace hng := hng.below hly35
            replace h4 := h4.below hly35
            replace h5 := h5.below hly35
            replace hblk := hblk.below hly35
            replace h6 := h6.below hly35
            replace h9 := h9.below hly35
            refine (times_any y35 _ _ _ _ A.neg hd h9 HLK.out hng).mono ?_
            rintro e y352 ⟨⟨u11, rfl, h11⟩, hby35⟩
            replace hd := hd.below hby35
            replace hng := hng.below hby35
            replace h4 := h4.below hby35
            replace h5 := h5.below hby35
            replace hblk := hblk.below hby35
            replace h6 := h6.below hby35
            replace h9 := h9.below hby35
            refine ⟨_, rfl, RL.Aft.lat hsy35 hby35, ?_⟩
            clear hly35 hsy35 hby35
            try go_frame
            refine' RL.stepCall (i := 12) 38 #[vd, u6, u11] rfl (by kernel_rfl) (by rfl) ?hv38 ?hc38
            case hv38 => (intro W; go_simp; try with_reducible rfl)
            intro y37 hly37 hsy37
            replace hd := hd.below hly37
            replace hng := hng.below hly37
            replace h4 := h4.below hly37
            replace h5 := h5.below hly37
            replace hblk := hblk.below hly37
            replace h6 := h6.below hly37
            replace h9 := h9.below hly37
            replace h11 := h11.below hly37
            refine (add_pq y37 _ _ _ _ _ hd h6 h11).mono ?_
            rintro e y372 ⟨⟨u12, rfl, h12⟩, hby37⟩
            replace hd := hd.below hby37
            replace hng := hng.below hby37
            replace h4 := h4.below hby37
            replace h5 := h5.below hby37
            replace hblk := hblk.below hby37
            replace h6 := h6.below hby37
            replace h9 := h9.below hby37
            replace h11 := h11.below hby37
            refine ⟨_, rfl, RL.Aft.lat hsy37 hby37, ?_⟩
            clear hly37 hsy37 hby37
            try go_frame
            obtain ⟨lA, ln, lc, lB, lm, ld, lC, lk, le, hu12⟩ := h12.form
            subst hu12
            refine normR #[true, true, true, true, true, true, true, true, true, true, true, true, true, true, false] (by kernel_rfl) ?_
            exact hrest7 u4 u5 u6 u9 u11 lA ln lc lB lm ld lC lk le tb _ ⟨hblk, h12, hblw⟩
        · go_simp
          replace hd := hd.below hly8
          replace hng := hng.below hly8
          replace h4 := h4.below hly8
          obtain ⟨tb, htb⟩ : ∃ n, y8.heap.size = n := ⟨_, rfl⟩
          have hba : Below y8.heap.size y8 (y8.alloc (.cells #[.slice none 0 0, .slice none 0 0, .slice none 0 0] 40)) := (Below.refl _ _).alloc (Nat.le_refl _) _
          have hblk : BK (y8.alloc (.cells #[.slice none 0 0, .slice none 0 0, .slice none 0 0] 40)) tb 40 #[.slice none 0 0, .slice none 0 0, .slice none 0 0] := Rg.Blk.newAt htb.symm _ _
          have hblw : V6.heap.size ≤ tb := by rw [← htb]; exact (show RL.Aft V6 y8 from hsy8).size
          replace hd := hd.below hba
          replace hng := hng.below hba
          replace h4 := h4.below hba
          refine hK.out _ _ (RL.Aft.alloc hsy8 _) ?_
          try rw [htb]
          clear hK hly8 hsy8 hba htb
          try go_frame
          generalize hgy : y8.alloc (.cells #[.slice none 0 0, .slice none 0 0, .slice none 0 0] 40) = y8y at *
          clear hgy
          refine' RL.stepCall (i := 5) 26 #[] rfl (by kernel_rfl) (by rfl) ?hv40 ?hc40
          case hv40 => (intro W; go_simp; try with_reducible rfl)
          intro y39 hly39 hsy39
          replace hd := hd.below hly39
          replace hng := hng.below hly39
          replace h4 := h4.below hly39
          replace hblk := hblk.below hly39
          refine (base8_any y39).mono ?_
          rintro e y392 ⟨⟨u5, rfl, h5⟩, hby39⟩
          replace hd := hd.below hby39
          replace hng := hng.below hby39
          replace h4 := h4.below hby39
          replace hblk := hblk.below hby39
          refine ⟨_, rfl, RL.Aft.lat hsy39 hby39, ?_⟩
          clear hly39 hsy39 hby39
          try go_frame
          refine' RL.stepCall (i := 6) 24 #[vd, u4, u5] rfl (by kernel_rfl) (by rfl) ?hv42 ?hc42
          case hv42 => (intro W; go_simp; try with_reducible rfl)
          intro y41 hly41 hsy41
          replace hd := hd.below hly41
          replace hng := hng.below hly41
          replace h4 := h4.below hly41
          replace hblk := hblk.below hly41
          replace h5 := h5.below hly41
          refine (times_any y41 _ _ _ _ base hd h4 HLS.out h5).mono ?_
          rintro e y412 ⟨⟨u6, rfl, h6⟩, hby41⟩
          replace hd := hd.below hby41
          replace hng := hng.below hby41
          replace h4 := h4.below hby41
          replace hblk := hblk.below hby41
          replace h5 := h5.below hby41
          refine ⟨_, rfl, RL.Aft.lat hsy41 hby41, ?_⟩
          clear hly41 hsy41 hby41
          try go_frame
          refine' RL.stepCall (i := 9) 25 #[.string K2] rfl (by kernel_rfl) (by rfl) ?hv44 ?hc44
          case hv44 => (intro W; go_simp; try with_reducible rfl)
          intro y43 hly43 hsy43
          replace hd := hd.below hly43
          replace hng := hng.below hly43
          replace h4 := h4.below hly43
          replace hblk := hblk.below hly43
          replace h5 := h5.below hly43
          replace h6 := h6.below hly43
          refine (HCK.out y43).mono ?_
          rintro e y432 ⟨⟨u9, rfl, h9⟩, hby43⟩
          replace hd := hd.below hby43
          replace hng := hng.below hby43
          replace h4 := h4.below hby43
          replace hblk := hblk.below hby43
          replace h5 := h5.below hby43
          replace h6 := h6.below hby43
          refine ⟨_, rfl, RL.Aft.lat hsy43 hby43, ?_⟩
          clear hly43 hsy43 hby43
          try go_frame
          refine' RL.stepCall (i := 11) 24 #[vd, u9, .agg #[.slice nA nn nc, .slice aB am ad, .slice aC ak ae]] rfl (by kernel_rfl) (by rfl) ?hv46 ?hc46
          case hv46 => (intro W; go_simp; try with_reducible rfl)
          intro y45 hly45 hsy45
          replace hd := hd.below hly45
          replace hng := hng.below hly45
          replace h4 := h4.below hly45
          replace hblk := hblk.below hly45
          replace h5 := h5.below hly45
          replace h6 := h6.below hly45
          replace h9 := h9.below hly45
          refine (times_any y45 _ _ _ _ A.neg hd h9 HLK.out hng).mono ?_
          rintro e y452 ⟨⟨u11, rfl, h11⟩, hby45⟩
          replace hd := hd.below hby45
          replace hng := hng.below hby45
          replace h4 := h4.below hby45
          replace hblk := hblk.below hby45
          replace h5 := h5.below hby45
          replace h6 := h6.below hby45
          replace h9 := h9.below hby45
          refine ⟨_, rfl, RL.Aft.lat hsy45 hby45, ?_⟩
          clear hly45 hsy45 hby45
          try go_frame
          refine' RL.stepCall (i := 12) 38 #[vd, u6, u11] rfl (by kernel_rfl) (by rfl) ?hv48 ?hc48
          case hv48 => (intro W; go_simp; try with_reducible rfl)
          intro y47 hly47 hsy47
          replace hd := hd.below hly47
          replace hng := hng.below hly47
          replace h4 := h4.below hly47
          replace hblk := hblk.below hly47
          replace h5 := h5.below hly47
          replace h6 := h6.below hly47
          replace h9 := h9.below hly47
          replace h11 := h11.below hly47
          refine (add_pq y47 _ _ _ _ _ hd h6 h11).mono ?_
          rintro e y472 ⟨⟨u12, rfl, h12⟩, hby47⟩
          replace hd := hd.below hby47
          replace hng := hng.below hby47
          replace h4 := h4.below hby47
          replace hblk := hblk.below hby47
          replace h5 := h5.below hby47
          replace h6 := h6.below hby47
          replace h9 := h9.below hby47
          replace h11 := h11.below hby47
          refine ⟨_, rfl, RL.Aft.lat hsy47 hby47, ?_⟩
          clear hly47 hsy47 hby47
          try go_frame
          obtain ⟨lA, ln, lc, lB, lm, ld, lC, lk, le, hu12⟩ := h12.form
          subst hu12
          refine normR #[true, true, true, true, true, true, true, true, true, true, true, true, true, true, false] (by kernel_rfl) ?_
          exact hrest7 u4 u5 u6 u9 u11 lA ln lc lB lm ld lC lk le tb _ ⟨hblk, h12, hblw⟩
      · go_simp
        replace hd := hd.below hly6
        replace hng := hng.below hly6
        obtain ⟨tb, htb⟩ : ∃ n, y6.heap.size = n := ⟨_, rfl⟩
        have hba : Below y6.heap.size y6 (y6.alloc (.cells #[.slice none 0 0, .slice none 0 0, .slice none 0 0] 40)) := (Below.refl _ _).alloc (Nat.le_refl _) _
        have hblk : BK (y6.alloc (.cells #[.slice none 0 0, .slice none 0 0, .slice none 0 0] 40)) tb 40 #[.slice none 0 0, .slice none 0 0, .slice none 0 0] := Rg.Blk.newAt htb.symm _ _
        have hblw : V6.heap.size ≤ tb := by rw [← htb]; exact (show RL.Aft V6 y6 from hsy6).size
        replace hd := hd.below hba
        replace hng := hng.below hba
        refine hK.out _ _ (RL.Aft.alloc hsy6 _) ?_
        try rw [htb]
        clear hK hly6 hsy6 hba htb
        try go_frame
        generalize hgy : y6.alloc (.cells #[.slice none 0 0, .slice none 0 0, .slice none 0 0] 40) = y6y at *
        clear hgy
        refine' RL.stepCall (i := 4) 25 #[.string SS] rfl (by kernel_rfl) (by rfl) ?hv50 ?hc50
        case hv50 => (intro W; go_simp; try with_reducible rfl)
        intro y49 hly49 hsy49
        replace hd := hd.below hly49
        replace hng := hng.below hly49
        replace hblk := hblk.below hly49
        refine (HCS.out y49).mono ?_
        rintro e y492 ⟨⟨u4, rfl, h4⟩, hby49⟩
        replace hd := hd.below hby49
        replace hng := hng.below hby49
        replace hblk := hblk.below hby49
        refine ⟨_, rfl, RL.Aft.lat hsy49 hby49, ?_⟩
        clear hly49 hsy49 hby49
        try go_frame
        refine' RL.stepCall (i := 5) 26 #[] rfl (by kernel_rfl) (by rfl) ?hv52 ?hc52
        case hv52 => (intro W; go_simp; try with_reducible rfl)
        intro y51 hly51 hsy51
        replace hd := hd.below hly51
        replace hng := hng.below hly51
        replace hblk := hblk.below hly51
        replace h4 := h4.below hly51
        refine (base8_any y51).mono ?_
        rintro e y512 ⟨⟨u5, rfl, h5⟩, hby51⟩
        replace hd := hd.below hby51
        replace hng := hng.below hby51
        replace hblk := hblk.below hby51
        replace h4 := h4.below hby51
        refine ⟨_, rfl, RL.Aft.lat hsy51 hby51, ?_⟩
        clear hly51 hsy51 hby51
        try go_frame
        refine' RL.stepCall (i := 6) 24 #[vd, u4, u5] rfl (by kernel_rfl) (by rfl) ?hv54 ?hc54
        case hv54 => (intro W; go_simp; try with_reducible rfl)
        intro y53 hly53 hsy53
        replace hd := hd.below hly53
        replace hng := hng.below hly53
        replace hblk := hblk.below hly53
        replace h4 := h4.below hly53
        replace h5 := h5.below hly53
        refine (times_any y53 _ _ _ _ base hd h4 HLS.out h5).mono ?_
        rintro e y532 ⟨⟨u6, rfl, h6⟩, hby53⟩
        replace hd := hd.below hby53
        replace hng := hng.below hby53
        replace hblk := hblk.below hby53
        replace h4 := h4.below hby53
        replace h5 := h5.below hby53
        refine ⟨_, rfl, RL.Aft.lat hsy53 hby53, ?_⟩
        clear hly53 hsy53 hby53
        try go_frame
        refine' RL.stepCall (i := 9) 25 #[.string K2] rfl (by kernel_rfl) (by rfl) ?hv56 ?hc56
        case hv56 => (intro W; go_simp; try with_reducible rfl)
        intro y55 hly55 hsy55
        replace hd := hd.below hly55
        replace hng := hng.below hly55
        replace hblk := hblk.below hly55
        replace h4 := h4.below hly55
        replace h5 := h5.below hly55
        replace h6 := h6.below hly55
        refine (HCK.out y55).mono ?_
        rintro e y552 ⟨⟨u9, rfl, h9⟩, hby55⟩
        replace hd := hd.below hby55
        replace hng := hng.below hby55
        replace hblk := hblk.below hby55
        replace h4 := h4.below hby55
        replace h5 := h5.below hby55
        replace h6 := h6.below hby55
        refine ⟨_, rfl, RL.Aft.lat hsy55 hby55, ?_⟩
        clear hly55 hsy55 hby55
        try go_frame
        refine' RL.stepCall (i := 11) 24 #[vd, u9, .agg #[.slice nA nn nc, .slice aB am ad, .slice aC ak ae]] rfl (by kernel_rfl) (by rfl) ?hv58 ?hc58
        case hv58 => (intro W; go_simp; try with_reducible rfl)
        intro y57 hly57 hsy57
        replace hd := hd.below hly57
        replace hng := hng.below hly57
        replace hblk := hblk.below hly57
        replace h4 := h4.below hly57
        replace h5 := h5.below hly57
        replace h6 := h6.below hly57
        replace h9 := h9.below hly57
        refine (times_any y57 _ _ _ _ A.neg hd h9 HLK.out hng).mono ?_
        rintro e y572 ⟨⟨u11, rfl, h11⟩, hby57⟩
        replace hd := hd.below hby57
        replace hng := hng.below hby57
        replace hblk := hblk.below hby57
        replace h4 := h4.below hby57
        replace h5 := h5.below hby57
        replace h6 := h6.below hby57
        replace h9 := h9.below hby57
        refine ⟨_, rfl, RL.Aft.lat hsy57 hby57, ?_⟩
        clear hly57 hsy57 hby57
        try go_frame
        refine' RL.stepCall (i := 12) 38 #[vd, u6, u11] rfl (by kernel_rfl) (by rfl) ?hv60 ?hc60
        case hv60 => (intro W; go_simp; try with_reducible rfl)
        intro y59 hly59 hsy59
        replace hd := hd.below hly59
        replace hng := hng.below hly59
        replace hblk := hblk.below hly59
        replace h4 := h4.below hly59
        replace h5 := h5.below hly59
        replace h6 := h6.below hly59
        replace h9 := h9.below hly59
        replace h11 := h11.below hly59
        refine (add_pq y59 _ _ _ _ _ hd h6 h11).mono ?_
        rintro e y592 ⟨⟨u12, rfl, h12⟩, hby59⟩
        replace hd := hd.below hby59
        replace hng := hng.below hby59
        replace hblk := hblk.below hby59
        replace h4 := h4.below hby59
        replace h5 := h5.below hby59
        replace h6 := h6.below hby59
        replace h9 := h9.below hby59
        replace h11 := h11.below hby59
        refine ⟨_, rfl, RL.Aft.lat hsy59 hby59, ?_⟩
        clear hly59 hsy59 hby59
        try go_frame
        obtain ⟨lA, ln, lc, lB, lm, ld, lC, lk, le, hu12⟩ := h12.form
        subst hu12
        refine normR #[true, true, true, true, true, true, true, true, true, true, true, true, true, true, false] (by kernel_rfl) ?_
        exact hrest7 u4 u5 u6 u9 u11 lA ln lc lB lm ld lC lk le tb _ ⟨hblk, h12, hblw⟩
     case hr7 =>
      rintro u4 u5 u6 u9 u11 lA ln lc lB lm ld lC lk le tb W7 ⟨hblk, h12, hblw⟩
      refine RL.sk 14 (fun ws hlws hsws K hK => ?_)
      replace hblk := hblk.below hlws
      replace h12 := h12.below hlws
      refine Kx.store_blk_op 40 _ _ rfl tb #[.slice lA ln lc, .slice lB lm ld, .slice lC lk le] #[.slice none 0 0, .slice none 0 0, .slice none 0 0] 40 rfl rfl hblk (by kernel_rfl) rfl (by simp [Value.oneCell']) ?_
      intro X9 hX hgX
      have h12 := h12.grown hgX hblk nil3
      have hbx : Below V6.heap.size V6 X9 := Below.grown (show RL.Aft V6 ws from hsws) hgX (show RL.Aft V6 ws from hsws).size (fun j e => by cases e; exact hblw)
      refine hK.out _ _ hbx ?_
      clear hK
      try go_frame
      refine RL.done (by kernel_rfl) (fun Y7 hlY7 hsY7 => ?_)
      have HBL := ϕ (show BK Y7 tb 40 #[.slice lA ln lc, .slice lB lm ld, .slice lC lk le] from BK.below hX hlY7)
      have HPL := ϕ (h12.below hlY7)
      have HB7 := ϕ (HB6.out.trans (Below.mono (show RL.Aft V6 Y7 from hsY7) HB6.out.size))
      clear h12 hX hgX hbx hblk hblw hlws hsws hlY7 hsY7
      try clear hd hng h4 h5 h6 h9 h11
      go_upto_region 8 with fail
      refine RL.start (RL.Aft Y7) (by kernel_rfl) (RL.Aft.drew (RL.Aft.refl Y7)) ?_
      refine RL.tw 0 (v := .agg #[.slice lA ln lc, .slice lB lm ld, .slice lC lk le]) rfl (fun W hSW => RT.run_row 40 _ rfl _ rfl _ _ (HBL.out.below hSW) Tryz.underlying40 rfl (by kernel_rfl)) ?_
      try go_frame
      refine' RL.tc 1 (v := (.string BE)) 23 #[.agg #[.slice lA ln lc, .slice lB lm ld, .slice lC lk le]] ?hk55 ?hc55 ?_
      case hk55 => (intro W; go_simp; try with_reducible rfl)
      case hc55 => (intro W hSW; exact (HCB.out W _ (HPL.out.below hSW)).mono (fun e w9 h9 => ⟨h9.1, h9.2, RL.Aft.lat hSW h9.2⟩))
      try go_frame
      refine' RL.tv 2 ?hk56 ?_
      case hk56 => (intro W hSW; go_simp; try with_reducible rfl)
      try go_frame
      refine' RL.tv 3 ?hk57 ?_
      case hk57 => (intro W hSW; have x1 := HSR.out W; go_simp; try with_reducible rfl)
      try go_frame
      refine' RL.tv 4 ?hk58 ?_
      case hk58 => (intro W hSW; have x2 := HEQ.out; go_simp; try with_reducible rfl)
      try go_frame
      refine' RL.tv 5 ?hk59 ?_
      case hk59 => (intro W hSW; go_simp; try with_reducible rfl)
      try go_frame
      refine RL.done (by kernel_rfl) (fun Z9 hlZ9 hsZ9 => ?_)
      have HA9 := ϕ (show RL.Aft Y7 Z9 from hsZ9)
      go_wp2_with fail
      go_ret
      exact ⟨by rw [HVR.out]; rfl, HB7.out.trans (Below.mono HA9.out HB7.out.size)⟩
  · rw [decide_eq_false hf] at HCF hvr
    rw [Bool.false_and] at hvr
    have HVR := ϕ hvr
    clear hKE hM hSG hSS hSR hd hvr hf
    go_enter Tryz.func15, Tryz.ntmps15
    have tk1 := True.intro
    go_upto_region 3 with (first
     | (have _t := tk1; go_at_call 17; refine (D_any w).mono ?_; rintro e w1x ⟨⟨vd, rfl, hv⟩, hb⟩; skip;  have HD := ϕ hv; have HB := tm HB hb; clear hb hv _t tk1; have tk2 := True.intro)
     | (have _t := tk2; go_at_call 16; refine (HCR.out w1x _ HD.out).mono ?_; rintro e w2x ⟨⟨u, rfl, hf, hp⟩, hb⟩; have HB := tm HB hb; obtain ⟨aA, an, ac, aB, am, ad, aC, ak, ae, hu⟩ := hf; subst hu; clear hp; clear hb  _t tk2; have tk3 := True.intro))
    obtain ⟨ab, hab⟩ : ∃ n, w2x.heap.size = n := ⟨_, rfl⟩
    have HA9 := ϕ (show Below w2x.heap.size w2x (w2x.alloc (.cells #[.slice aA an ac, .slice aB am ad, .slice aC ak ae] 40)) from (Below.refl _ _).alloc (Nat.le_refl _) _)
    have HB := ϕ (HB.out.trans (HA9.out.mono HB.out.size))
    try rw [hab]
    clear hab HA9
    generalize (w2x.alloc (.cells #[.slice aA an ac, .slice aB am ad, .slice aC ak ae] 40)) = V3 at *
    have hss := HSS.out
    have tm1 := True.intro
    go_wp2_with (have _t := tm1; go_at_call 36; refine (HCF.out V3).mono ?_; rintro e w1x ⟨rfl, hb⟩; have HB := tm HB hb; clear hb  _t tm1; have tm2 := True.intro)
    go_ret
    exact ⟨by rw [HVR.out]; rfl, HB.out⟩
end Go.Proofs.YtfpcelmekfdafaaGreatDoor.Rf
namespace Go.Proofs.YtfpcelmekfdafaaGreatDoor.Kx
open Go.RowKit Go.Proofs.YtfpcelmekfdafaaGreatDoor.Cl Go.Proofs.YtfpcelmekfdafaaGreatDoor.Ed Go.Proofs.YtfpcelmekfdafaaGreatDoor.Rf
theorem xor_u8 (x y : UInt8) : bits .xor .u8 (x.toNat : Int) (y.toNat : Int) = (((x ^^^ y).toNat : Nat) : Int) := by
 rw [u8_xor_nat _ _ x.toNat_lt y.toNat_lt, UInt8.toNat_xor]
/-- the low bits of a number -/
theorem and_low (n : Int) (k : Nat) (c : Int) (hk : k ≤ 16) (hc : (BitVec.ofInt 64 c).toNat = 2 ^ k - 1) : ∃ r : Nat, r < 2 ^ k ∧ bits .and .i64 n c = (r : Int) := by
 have key : (BitVec.ofInt 64 n &&& BitVec.ofInt 64 c).toNat = (n % ((2 ^ 64 : Nat) : Int)).toNat % 2 ^ k := by
  rw [BitVec.toNat_and, BitVec.toNat_ofInt, hc, Nat.and_two_pow_sub_one_eq_mod]
 have hp : 2 ^ k ≤ 2 ^ 16 := Nat.pow_le_pow_right (by decide) hk
 have hpos : 0 < 2 ^ k := Nat.pow_pos (by decide)
 have hlt := Nat.mod_lt (n % ((2 ^ 64 : Nat) : Int)).toNat hpos
 refine ⟨(n % ((2 ^ 64 : Nat) : Int)).toNat % 2 ^ k, hlt, ?_⟩
 show IntKind.i64.wrap ((BitVec.ofInt 64 n &&& BitVec.ofInt 64 c).toNat : Nat) = _
 rw [key, IntKind.wrap_i64]
 generalize (n % ((2 ^ 64 : Nat) : Int)).toNat % 2 ^ k = z at *
 generalize 2 ^ k = p at *
 omega
/-- a Signed's cells -/
@[irreducible] def sgdV (k g : List UInt8) (S : ByteArray) (wh pa : Int) (y : UInt8) (an : Bool) : Array Value := (Ow.bv (k ++ g) ++ ([.string S, .int .i64 wh, .int .i64 pa, .int .u8 (y.toNat : Int), .bool an] : List Value)).toArray
theorem sgdV_size {k g : List UInt8} {S : ByteArray} {wh pa : Int} {y : UInt8} {an : Bool} (hk : k.length = 32) (hg : g.length = 64) : (sgdV k g S wh pa y an).size = 101 := by unfold sgdV; simp [Ow.bv_length, hk, hg]
theorem sgdV_bytes {w : World} {b T : Nat} {k g : List UInt8} {S : ByteArray} {wh pa : Int} {y : UInt8} {an : Bool} (h : Rg.Blk w b T (sgdV k g S wh pa y an)) : Cv.Bytes w b 0 (k ++ g) := fun j x hx => by
 rw [Nat.zero_add]
 refine h.cell j ?_
 unfold sgdV
 have hl : j < (k ++ g).length := (List.getElem?_eq_some_iff.1 hx).1
 have hl2 : j < (Ow.bv (k ++ g)).length := by rw [Ow.bv_length]; exact hl
 rw [List.getElem?_toArray, List.getElem?_append_left hl2]
 show ((k ++ g).map _)[j]? = _
 rw [List.getElem?_map, hx]
 rfl
theorem sgdV_key {w : World} {b T : Nat} {k g : List UInt8} {S : ByteArray} {wh pa : Int} {y : UInt8} {an : Bool} (h : Rg.Blk w b T (sgdV k g S wh pa y an)) : Cv.Bytes w b 0 k := fun j x hx => sgdV_bytes h j x (by rw [List.getElem?_append_left (List.getElem?_eq_some_iff.1 hx).1]; exact hx)
theorem sgdV_sig {w : World} {b T : Nat} {k g : List UInt8} {S : ByteArray} {wh pa : Int} {y : UInt8} {an : Bool} (hk : k.length = 32) (h : Rg.Blk w b T (sgdV k g S wh pa y an)) : Cv.Bytes w b 32 g := fun j x hx => by
 have := sgdV_bytes h (32 + j) x (by rw [← hk, List.getElem?_append_right (by omega), Nat.add_sub_cancel_left]; exact hx)
 rwa [Nat.zero_add] at this
theorem sgdV_at {w : World} {b T : Nat} {k g : List UInt8} {S : ByteArray} {wh pa : Int} {y : UInt8} {an : Bool} (hk : k.length = 32) (hg : g.length = 64) (h : Rg.Blk w b T (sgdV k g S wh pa y an)) :
 w.cell? ⟨b, 96, none⟩ = some (.string S) ∧ w.cell? ⟨b, 97, none⟩ = some (.int .i64 wh) ∧ w.cell? ⟨b, 98, none⟩ = some (.int .i64 pa) ∧ w.cell? ⟨b, 99, none⟩ = some (.int .u8 (y.toNat : Int)) ∧ w.cell? ⟨b, 100, none⟩ = some (.bool an) := by
 have e : (Ow.bv (k ++ g)).length = 96 := by rw [Ow.bv_length, List.length_append, hk, hg]
 have key : ∀ (j : Nat) (v : Value), [Value.string S, .int .i64 wh, .int .i64 pa, .int .u8 (y.toNat : Int), .bool an][j]? = some v → w.cell? ⟨b, 96 + j, none⟩ = some v := fun j v hv => h.cell (96 + j) (by
  unfold sgdV
  rw [List.getElem?_toArray, List.getElem?_append_right (by omega), e, Nat.add_sub_cancel_left]
  exact hv)
 exact ⟨key 0 _ rfl, key 1 _ rfl, key 2 _ rfl, key 3 _ rfl, key 4 _ rfl⟩
/-- a check over whole signatures -/
def ver64 (k m g : List UInt8) : Bool := ver k m (g.take 32) (g.drop 32)
theorem ver64_own (w : World) (k m g : List UInt8) (hk : k.length = 32) (hm : m.length ≤ 10000) (hg : g.length = 64) (h : Sg w) : Calls Tryz.prog 14 #[.agg (Cv.bytesV k), .string (bs m), .agg (Cv.bytesV g)] w fun e w' => e = .returned (.bool (ver64 k m g)) ∧ Below w.heap.size w w' := by
 have h := Verify_any w k m (g.take 32) (g.drop 32) hk hm (by rw [List.length_take, hg]; rfl) (by rw [List.length_drop, hg]) h.t h.o
 rw [List.take_append_drop] at h
 exact h
theorem ver64_ref (w : World) (k m g : List UInt8) (hk : k.length = 32) (hm : m.length ≤ 10000) (hg : g.length = 64) : Calls Tryz.prog 15 #[.string ⟨k.toArray⟩, .string (bs m), .string ⟨g.toArray⟩] w fun e w' => e = .returned (.bool (ver64 k m g)) ∧ Below w.heap.size w w' := by
 have h := ver8_any w k m (g.take 32) (g.drop 32) hk hm (by rw [List.length_take, hg]; rfl) (by rw [List.length_drop, hg])
 rw [List.take_append_drop] at h
 exact h
theorem law_SignVerifies (w : World) (k g : List UInt8) (S : ByteArray) (wh pa : Int) (y : UInt8) (an : Bool) (hk : k.length = 32) (hg : g.length = 64) (hG : Sg w) : Calls Tryz.prog 5 #[.agg (sgdV k g S wh pa y an)] w fun e w' => e = .returned (.bool true) ∧ Below w.heap.size w w' := by
 obtain ⟨m, hm⟩ : ∃ m, S.data.toList.take 60 = m := ⟨_, rfl⟩
 have hml : m.length ≤ 60 := by rw [← hm, List.length_take]; omega
 have HMS := ϕ hml
 have HML := ϕ (show m.length ≤ 10000 from by omega)
 have HCT := ϕ (fun W => cut_bs W S 60 (by decide) m hm)
 obtain ⟨ke, hke⟩ : ∃ e, pub k = e := ⟨_, rfl⟩
 obtain ⟨sg, hsg⟩ : ∃ e, sig k ke m = e := ⟨_, rfl⟩
 have HKE := ϕ (show ke.length = 32 from by rw [← hke]; exact pub_len _)
 have HSG := ϕ (show sg.length = 64 from by rw [← hsg]; unfold sig; rw [List.length_append, enc_len, toLe_len])
 have CKE := ϕ (fun W (h : Sg W) => show Calls Tryz.prog 8 #[.agg (Cv.bytesV k)] W fun e w' => e = .returned (.agg (Cv.bytesV ke)) ∧ Below W.heap.size W w' from hke ▸ Key_any W k hk h.t)
 have CSI := ϕ (fun W (h : Sg W) => show Calls Tryz.prog 12 #[.agg (Cv.bytesV k), .string (bs m)] W fun e w' => e = .returned (.agg (Cv.bytesV sg)) ∧ Below W.heap.size W w' from by
  have h := Sign_any W k m hk (by omega) h.t h.o
  rw [hke, hsg] at h
  exact h)
 obtain ⟨n, hn16, hn⟩ := and_low pa 16 65535 (by decide) (by decide)
 obtain ⟨c3, hc3, h3⟩ := and_low wh 2 3 (by decide) (by decide)
 have HN := ϕ hn
 have hc4 : c3 = 0 ∨ c3 = 1 ∨ c3 = 2 ∨ c3 = 3 := by omega
 have HKL := ϕ hk
 have HGL := ϕ hg
 have HG := ϕ hG
 have HC4 := ϕ hc4
 have HC3 := ϕ h3
 clear hm hml hke hsg hk hg hG hn hc3 hn16 hc4 h3
 go_enter Tryz.func5, Tryz.ntmps5
 go_upto_region 1 with ((with_reducible refine gate_ ?_); refine Rg.box_fresh rfl 35 _ rfl (sgdV k g S wh pa y an) rfl ?_; intro X hX hbX hnX; have HX := ϕ hX; have HBX := ϕ hbX; clear hX hbX hnX)
 obtain ⟨sb, hsb⟩ : ∃ n, w.heap.size = n := ⟨_, rfl⟩
 have Hsb := ϕ (show Rg.Blk X sb 35 (sgdV k g S wh pa y an) from hsb ▸ HX.out)
 have HB := ϕ (show Below w.heap.size w X from HBX.out)
 have HG := ϕ (HG.out.below HBX.out)
 have HW := ϕ hsb
 try rw [hsb]
 clear HX HBX hsb
 go_upto_region 3 with (go_at_call 7; refine (awake08 _ HG.out).mono ?_; rintro e w1 ⟨rfl, hb1⟩; have Hsb := ϕ (Hsb.out.below hb1 Hsb.out.lt); have HG := ϕ (HG.out.below hb1); have HB := tm HB hb1; clear hb1)
 have x0 := (sgdV_at HKL.out HGL.out Hsb.out).1
 go_upto_region 4 with (go_at_call 11; refine (HCT.out _).mono ?_; rintro e w1b ⟨rfl, rfl⟩; skip)
 clear x0
 refine RL.start (RL.Aft w1) (by kernel_rfl) (RL.Aft.drew (RL.Aft.refl w1)) ?_
 refine' RL.tv 0 ?hk15 ?_
 case hk15 => (intro W hSW; go_simp; try with_reducible rfl)
 try go_frame
 refine RL.tw 1 (v := .agg (Cv.bytesV k)) rfl (fun W hSW => run_at 22 _ rfl sb 0 rfl (Cv.bytesV k) (Cv.Bytes.cells (sgdV_key (aft_blk hSW Hsb.out))) Tryz.underlying22 rfl (by rw [Cv.bytesV_size, HKL.out]; kernel_rfl)) ?_
 try go_frame
 refine' RL.tv 2 ?hk16 ?_
 case hk16 => (intro W hSW; go_simp; try with_reducible rfl)
 try go_frame
 refine RL.tw 3 (v := .agg (Cv.bytesV g)) rfl (fun W hSW => run_at 29 _ rfl sb 32 rfl (Cv.bytesV g) (Cv.Bytes.cells (sgdV_sig HKL.out (aft_blk hSW Hsb.out))) Tryz.underlying29 rfl (by rw [Cv.bytesV_size, HGL.out]; kernel_rfl)) ?_
 try go_frame
 refine RL.alloc2 (i := 4) (j := 5) 22 29 z32 #[.int .u8 0, .int .u8 0, .int .u8 0, .int .u8 0, .int .u8 0, .int .u8 0, .int .u8 0, .int .u8 0, .int .u8 0, .int .u8 0, .int .u8 0, .int .u8 0, .int .u8 0, .int .u8 0, .int .u8 0, .int .u8 0, .int .u8 0, .int .u8 0, .int .u8 0, .int .u8 0, .int .u8 0, .int .u8 0, .int .u8 0, .int .u8 0, .int .u8 0, .int .u8 0, .int .u8 0, .int .u8 0, .int .u8 0, .int .u8 0, .int .u8 0, .int .u8 0, .int .u8 0, .int .u8 0, .int .u8 0, .int .u8 0, .int .u8 0, .int .u8 0, .int .u8 0, .int .u8 0, .int .u8 0, .int .u8 0, .int .u8 0, .int .u8 0, .int .u8 0, .int .u8 0, .int .u8 0, .int .u8 0, .int .u8 0, .int .u8 0, .int .u8 0, .int .u8 0, .int .u8 0, .int .u8 0, .int .u8 0, .int .u8 0, .int .u8 0, .int .u8 0, .int .u8 0, .int .u8 0, .int .u8 0, .int .u8 0, .int .u8 0, .int .u8 0] rfl rfl (by kernel_rfl) (by kernel_rfl) (by kernel_rfl) (by decide) (by intro d h; cases h; decide) (fun _ => rfl) (fun _ => rfl) (fun _ _ => by go_simp; try rfl) (fun _ _ => by go_simp; try rfl) (fun _ _ h => RL.Aft.alloc h _) ?_
 intro kb gb wa hlwa hswa hne f0 f1 hZk hZg
 have Fk := ϕ (show w1.heap.size ≤ kb from by simpa using f0)
 have Fg := ϕ (show w1.heap.size ≤ gb from by simpa using f1)
 have HNE0 := ϕ hne
 clear f0 f1 hne
 try go_frame
 refine RL.sk 6 (fun va hlva hsva K hK => ?_)
 have hZk := hZk.below hlva hZk.lt
 have hZg := hZg.below hlva hZg.lt
 refine store_blk_op 22 _ _ rfl kb (Cv.bytesV k) _ 22 rfl (by rfl) hZk (by rw [Cv.bytesV_size, HKL.out]; kernel_rfl) (by rw [Cv.bytesV_size, HKL.out]; rfl) (Cv.bytesV_one _) ?_
 intro Y6 hY hgY
 have hZg := blk_other hZg hgY (HNE0.out)
 replace hZk := hY
 refine hK.out _ _ (Below.grown hsva hgY (Below.size hsva) (fun k hk => by cases hk; exact Fk.out)) ?_
 clear hK hgY
 try go_frame
 refine RL.sk 7 (fun vb hlvb hsvb K hK => ?_)
 have hZk := hZk.below hlvb hZk.lt
 have hZg := hZg.below hlvb hZg.lt
 refine store_blk_op 29 _ _ rfl gb (Cv.bytesV g) _ 29 rfl (by rfl) hZg (by rw [Cv.bytesV_size, HGL.out]; kernel_rfl) (by rw [Cv.bytesV_size, HGL.out]; rfl) (Cv.bytesV_one _) ?_
 intro Y7 hY hgY
 have hZk := blk_other hZk hgY ((fun e => HNE0.out e.symm))
 replace hZg := hY
 refine hK.out _ _ (Below.grown hsvb hgY (Below.size hsvb) (fun k hk => by cases hk; exact Fg.out)) ?_
 clear hK hgY
 try go_frame
 refine RL.done (by kernel_rfl) (fun V hlV hsV => ?_)
 have HA := ϕ (show RL.Aft w1 V from hsV)
 have Hkb := ϕ (show Rg.Blk V kb 22 (Cv.bytesV k) from hZk.below hlV hZk.lt)
 have Hgb := ϕ (show Rg.Blk V gb 29 (Cv.bytesV g) from hZg.below hlV hZg.lt)
 have HGE := ϕ (show w.heap.size ≤ kb ∧ w.heap.size ≤ gb ∧ 3 ≤ kb ∧ 3 ≤ gb ∧ 0 < kb ∧ 0 < gb from by
  have h1 := HB.out.size
  have h2 := Fk.out
  have h3 := Fg.out
  have h4 := HG.out.t.size
  have h5 := HG.out.o.size
  omega)
 have HNE := ϕ (show ¬ sb = kb ∧ ¬ sb = gb ∧ ¬ gb = kb ∧ ¬ kb = gb ∧ ¬ gb = kb from by
  have h1 := Hsb.out.lt
  have h2 := Fk.out
  have h3 := Fg.out
  have h4 := HNE0.out
  omega)
 have Hsb := ϕ (aft_blk HA.out Hsb.out)
 have HG := ϕ (HG.out.aft HA.out)
 have HB := ϕ (HB.out.trans (Below.mono HA.out HB.out.size))
 clear hlV hsV hZk hZg hlwa hswa hlva hsva hlvb hsvb hY HA HNE0 Fk Fg
 have x0 := (sgdV_at HKL.out HGL.out Hsb.out).2.2.2.2
 cases an with
 | true =>
  go_upto_region 16 with fail
  clear x0
  obtain ⟨q, hq⟩ : ∃ q, ver64 k m g = q := ⟨_, rfl⟩
  have CVE := ϕ (fun W (h : Sg W) => show Calls Tryz.prog 14 #[.agg (Cv.bytesV k), .string (bs m), .agg (Cv.bytesV g)] W fun e w' => e = .returned (.bool q) ∧ Below W.heap.size W w' from hq ▸ ver64_own W k m g HKL.out HML.out HGL.out h)
  have CVR := ϕ (fun W => show Calls Tryz.prog 15 #[.string ⟨k.toArray⟩, .string (bs m), .string ⟨g.toArray⟩] W fun e w' => e = .returned (.bool q) ∧ Below W.heap.size W w' from hq ▸ ver64_ref W k m g HKL.out HML.out HGL.out)
  clear hq
  refine RL.start (RL.Aft V) (by kernel_rfl) (RL.Aft.drew (RL.Aft.refl V)) ?_
  refine RL.tw 0 (v := .agg (Cv.bytesV k)) rfl (fun W hSW => RT.run_row 22 _ rfl _ rfl _ _ (aft_blk hSW Hkb.out) Tryz.underlying22 rfl (by rw [Cv.bytesV_size, HKL.out]; kernel_rfl)) ?_
  try go_frame
  refine' RL.tv 1 ?hk17 ?_
  case hk17 => (intro W hSW; go_simp; try with_reducible rfl)
  try go_frame
  refine RL.tw 2 (v := .agg (Cv.bytesV g)) rfl (fun W hSW => RT.run_row 29 _ rfl _ rfl _ _ (aft_blk hSW Hgb.out) Tryz.underlying29 rfl (by rw [Cv.bytesV_size, HGL.out]; kernel_rfl)) ?_
  try go_frame
  refine' RL.tc 3 (v := (.bool q)) 14 #[.agg (Cv.bytesV k), .string (bs m), .agg (Cv.bytesV g)] ?hk18 ?hc18 ?_
  case hk18 => (intro W; go_simp; try with_reducible rfl)
  case hc18 => (intro W hSW; exact (CVE.out W (HG.out.aft hSW)).mono (fun e w9 h9 => ⟨h9.1, h9.2, RL.Aft.lat hSW h9.2⟩))
  try go_frame
  refine' RL.tv 4 ?hk19 ?_
  case hk19 => (intro W hSW; go_simp; try with_reducible rfl)
  try go_frame
  refine' RL.tv 5 ?hk20 ?_
  case hk20 => (intro W hSW; have x1 := Cv.run_string_len (P := Tryz.prog) W 25 5 9 Tryz.underlying25 Tryz.underlying5 Tryz.underlying9 kb 0 32 32 k HKL.out (Cv.Bytes.of_blk (aft_blk hSW Hkb.out)); go_simp; try with_reducible rfl)
  try go_frame
  refine' RL.tv 6 ?hk21 ?_
  case hk21 => (intro W hSW; go_simp; try with_reducible rfl)
  try go_frame
  refine' RL.tv 7 ?hk22 ?_
  case hk22 => (intro W hSW; go_simp; try with_reducible rfl)
  try go_frame
  refine' RL.tv 8 ?hk23 ?_
  case hk23 => (intro W hSW; have x1 := Cv.run_string_len (P := Tryz.prog) W 25 5 9 Tryz.underlying25 Tryz.underlying5 Tryz.underlying9 gb 0 64 64 g HGL.out (Cv.Bytes.of_blk (aft_blk hSW Hgb.out)); go_simp; try with_reducible rfl)
  try go_frame
  refine' RL.tc 9 (v := (.bool q)) 15 #[.string ⟨k.toArray⟩, .string (bs m), .string ⟨g.toArray⟩] ?hk24 ?hc24 ?_
  case hk24 => (intro W; go_simp; try with_reducible rfl)
  case hc24 => (intro W hSW; exact (CVR.out W).mono (fun e w9 h9 => ⟨h9.1, h9.2, RL.Aft.lat hSW h9.2⟩))
  try go_frame
  refine' RL.tv 10 ?hk25 ?_
  case hk25 => (intro W hSW; go_simp; try with_reducible rfl)
  try go_frame
  refine' RL.tv 11 ?hk26 ?_
  case hk26 => (intro W hSW; go_simp; try with_reducible rfl)
  try go_frame
  refine RL.done (by kernel_rfl) (fun Z hlZ hsZ => ?_)
  have HB := ϕ (HB.out.trans (Below.mono (show RL.Aft V Z from hsZ) HB.out.size))
  go_wp2_with fail
  go_ret
  exact ⟨by simp, HW.out ▸ HB.out⟩
 | false =>
  go_upto_region 7 with (first
   | ((with_reducible refine gate_ ?_); refine Cv.load_cells rfl 22 _ rfl sb 0 rfl (Cv.bytesV k) _ (Cv.Bytes.cells (sgdV_key Hsb.out)) Tryz.underlying22 rfl (by rw [Cv.bytesV_size, HKL.out]; kernel_rfl) ?_)
   | (go_at_call 8; refine (CKE.out _ HG.out).mono ?_; rintro e w2 ⟨rfl, hb1⟩; have Hsb := ϕ (Hsb.out.below hb1 Hsb.out.lt); have Hkb := ϕ (Hkb.out.below hb1 Hkb.out.lt); have Hgb := ϕ (Hgb.out.below hb1 Hgb.out.lt); have HG := ϕ (HG.out.below hb1); have HB := tm HB hb1; clear hb1)
   | ((with_reducible refine gate_ ?_); refine Cv.store_blk rfl 22 _ _ rfl kb (Cv.bytesV ke) (Cv.bytesV k) 22 rfl rfl Hkb.out (by rw [Cv.bytesV_size, HKE.out]; kernel_rfl) (by rw [Cv.bytesV_size, Cv.bytesV_size, HKE.out, HKL.out]) (Cv.bytesV_one _) ?_; intro V1 hV hgV; have hu := Sp.Upd.of_grown1 hgV; have HG := ϕ (show Sg V1 from ⟨tab_upd HG.out.t hu (by simp; exact HGE.out.2.2.1), ord_upd HG.out.o hu HGE.out.2.2.2.2.1⟩); have Hsb := ϕ (blk_other Hsb.out hgV (fun e => HNE.out.1 e.symm)); have Hgb := ϕ (blk_other Hgb.out hgV (fun e => HNE.out.2.2.1 e.symm)); have Hkb := ϕ hV; have HB := ϕ (HB.out.grown hgV HB.out.size (fun j e => by cases e; exact HGE.out.1)); clear hV hgV hu))
  clear x0
  go_upto_region 8 with (first
   | ((with_reducible refine gate_ ?_); refine Cv.load_cells rfl 22 _ rfl sb 0 rfl (Cv.bytesV k) _ (Cv.Bytes.cells (sgdV_key Hsb.out)) Tryz.underlying22 rfl (by rw [Cv.bytesV_size, HKL.out]; kernel_rfl) ?_)
   | (go_at_call 12; refine (CSI.out _ HG.out).mono ?_; rintro e w3 ⟨rfl, hb1⟩; have Hsb := ϕ (Hsb.out.below hb1 Hsb.out.lt); have Hkb := ϕ (Hkb.out.below hb1 Hkb.out.lt); have Hgb := ϕ (Hgb.out.below hb1 Hgb.out.lt); have HG := ϕ (HG.out.below hb1); have HB := tm HB hb1; clear hb1)
   | ((with_reducible refine gate_ ?_); refine Cv.store_blk rfl 29 _ _ rfl gb (Cv.bytesV sg) (Cv.bytesV g) 29 rfl rfl Hgb.out (by rw [Cv.bytesV_size, HSG.out]; kernel_rfl) (by rw [Cv.bytesV_size, Cv.bytesV_size, HSG.out, HGL.out]) (Cv.bytesV_one _) ?_; intro V2 hV hgV; have hu := Sp.Upd.of_grown1 hgV; have HG := ϕ (show Sg V2 from ⟨tab_upd HG.out.t hu (by simp; exact HGE.out.2.2.2.1), ord_upd HG.out.o hu HGE.out.2.2.2.2.2⟩); have Hsb := ϕ (blk_other Hsb.out hgV (fun e => HNE.out.2.1 e.symm)); have Hkb := ϕ (blk_other Hkb.out hgV (fun e => HNE.out.2.2.2.1 e.symm)); have Hgb := ϕ hV; have HB := ϕ (HB.out.grown hgV HB.out.size (fun j e => by cases e; exact HGE.out.2.1)); clear hV hgV hu))
  have h3 := HC3.out
  rcases HC4.out with rfl | rfl | rfl | rfl
  · have H3 := ϕ (show bits .and .i64 wh 3 = 0 from h3)
    clear h3
    have e3 : bits .and .i64 wh 3 = 0 := H3.out
    have ea : bits .and .i64 pa 65535 = (n : Int) := HN.out
    have x7 := (sgdV_at HKL.out HGL.out Hsb.out).2.1
    have x8 := (sgdV_at HKL.out HGL.out Hsb.out).2.2.1
    obtain ⟨q, hq⟩ : ∃ q, n % 64 = q := ⟨_, rfl⟩
    have hqn : q < 64 := by omega
    have HQN := ϕ hqn
    have HQ := ϕ (show (n : Int).tmod 64 = (q : Int) ∧ (0 : Int) ≤ q ∧ (q : Int) < 64 from ⟨by rw [Int.tmod_eq_emod_of_nonneg (by omega)]; omega, by omega, by omega⟩)
    obtain ⟨x, hx⟩ : ∃ x, sg[q]? = some x := ⟨_, List.getElem?_eq_getElem (by rw [HSG.out]; exact hqn)⟩
    have HX := ϕ hx
    obtain ⟨z, hz⟩ : ∃ z, x ^^^ y = z := ⟨_, rfl⟩
    have HXO := ϕ (show bits .xor .u8 (x.toNat : Int) (y.toNat : Int) = (z.toNat : Int) from hz ▸ xor_u8 x y)
    obtain ⟨l2, hl2⟩ : ∃ l, sg.set q z = l := ⟨_, rfl⟩
    have HL2 := ϕ hl2
    have HLL := ϕ (show l2.length = 64 from by rw [← hl2, List.length_set]; exact HSG.out)
    clear hq hqn hx hz hl2
    go_upto_region 11 with fail
    clear e3 ea x7 x8
    refine RL.start (fun W => Sp.Upd V2 W [gb]) (by kernel_rfl) (Sp.Upd.trans (Sp.Upd.refl _ _) (Sp.Upd.of_below (Below.drew (Below.refl _ _))) (by simp)) ?_
    refine' RL.tv 0 ?hk27 ?_
    case hk27 => (intro W hSW; go_simp; try with_reducible rfl)
    try go_frame
    refine' RL.tv 1 ?hk28 ?_
    case hk28 => (intro W hSW; have e1 := HQ.out; go_simp; try with_reducible rfl)
    try go_frame
    refine' RL.tv 2 ?hk29 ?_
    case hk29 => (intro W hSW; have e1 := HQ.out; go_simp; try with_reducible rfl)
    try go_frame
    refine' RL.tv 4 ?hk30 ?_
    case hk30 => (intro W hSW; go_simp; try with_reducible rfl)
    try go_frame
    refine' RL.tv 5 ?hk31 ?_
    case hk31 => (intro W hSW; have x1 := (sgdV_at HKL.out HGL.out (upd_blk hSW Hsb.out (by simp; exact HNE.out.2.1))).2.2.2.1; go_simp; try with_reducible rfl)
    try go_frame
    refine RL.sk 3 (fun q3 hlq3 hsq3 K hK => ?_)
    have hO := (Hgb.out.below (Below.drew (Below.refl _ _)) Hgb.out.lt).below hlq3 (by have := Hgb.out.lt; simpa using this)
    have x1 := hO.cell q (Cv.bytesV_get _ _ _ HX.out)
    refine wp_val (v := .int .u8 (x.toNat : Int)) (by go_simp; try rfl) ?_
    refine hK.out _ _ hsq3 ?_
    clear hK hO x1
    try go_frame
    refine' RL.tv 6 ?hk32 ?_
    case hk32 => (intro W hSW; have e1 := HXO.out; go_simp; try with_reducible rfl)
    try go_frame
    refine' RL.tv 7 ?hk33 ?_
    case hk33 => (intro W hSW; have e1 := HQ.out; go_simp; try with_reducible rfl)
    try go_frame
    refine RL.sk 8 (fun va hlva hsva K hK => ?_)
    have hO := (Hgb.out.below (Below.drew (Below.refl _ _)) Hgb.out.lt).below (hlq3.trans hlva) (by have := Hgb.out.lt; simpa using this)
    refine store_one_op 5 _ _ rfl gb q (.int .u8 (z.toNat : Int)) (Cv.bytesV sg) 29 rfl (by first | rfl | (simp [HXO.out]; done)) rfl hO (by kernel_rfl) (by rw [Cv.bytesV_size, HSG.out]; exact HQN.out) rfl ?_
    intro Y hY hgY
    refine hK.out _ _ (Sp.Upd.trans hsva (Sp.Upd.of_grown1 hgY) (fun q hq => .inl hq)) ?_
    clear hK
    try go_frame
    refine RL.done (by kernel_rfl) (fun V3 hlV3 hsV3 => ?_)
    have Hgb := ϕ (show Rg.Blk V3 gb 29 (Cv.bytesV l2) from HL2.out ▸ Cv.bytesV_set sg q z ▸ hY.below hlV3 hY.lt)
    have Hkb := ϕ (upd_blk hsV3 Hkb.out (by simp; exact HNE.out.2.2.2.1))
    have HB := ϕ (below_upd HB.out hsV3 (fun k hk => by simp at hk; rw [hk]; exact HGE.out.2.1) HB.out.size)
    have HG := ϕ (show Sg V3 from ⟨tab_upd HG.out.t hsV3 (by simp; exact HGE.out.2.2.2.1), ord_upd HG.out.o hsV3 HGE.out.2.2.2.2.2⟩)
    clear hO hY hgY hlva hsva hlq3 hsq3 hsV3 hlV3
    go_upto_region 16 with fail
    obtain ⟨q, hq⟩ : ∃ q, ver64 ke m l2 = q := ⟨_, rfl⟩
    have CVE := ϕ (fun W (h : Sg W) => show Calls Tryz.prog 14 #[.agg (Cv.bytesV ke), .string (bs m), .agg (Cv.bytesV l2)] W fun e w' => e = .returned (.bool q) ∧ Below W.heap.size W w' from hq ▸ ver64_own W ke m l2 HKE.out HML.out HLL.out h)
    have CVR := ϕ (fun W => show Calls Tryz.prog 15 #[.string ⟨ke.toArray⟩, .string (bs m), .string ⟨l2.toArray⟩] W fun e w' => e = .returned (.bool q) ∧ Below W.heap.size W w' from hq ▸ ver64_ref W ke m l2 HKE.out HML.out HLL.out)
    clear hq
    refine RL.start (RL.Aft V3) (by kernel_rfl) (RL.Aft.drew (RL.Aft.refl V3)) ?_
    refine RL.tw 0 (v := .agg (Cv.bytesV ke)) rfl (fun W hSW => RT.run_row 22 _ rfl _ rfl _ _ (aft_blk hSW Hkb.out) Tryz.underlying22 rfl (by rw [Cv.bytesV_size, HKE.out]; kernel_rfl)) ?_
    try go_frame
    refine' RL.tv 1 ?hk34 ?_
    case hk34 => (intro W hSW; go_simp; try with_reducible rfl)
    try go_frame
    refine RL.tw 2 (v := .agg (Cv.bytesV l2)) rfl (fun W hSW => RT.run_row 29 _ rfl _ rfl _ _ (aft_blk hSW Hgb.out) Tryz.underlying29 rfl (by rw [Cv.bytesV_size, HLL.out]; kernel_rfl)) ?_
    try go_frame
    refine' RL.tc 3 (v := (.bool q)) 14 #[.agg (Cv.bytesV ke), .string (bs m), .agg (Cv.bytesV l2)] ?hk35 ?hc35 ?_
    case hk35 => (intro W; go_simp; try with_reducible rfl)
    case hc35 => (intro W hSW; exact (CVE.out W (HG.out.aft hSW)).mono (fun e w9 h9 => ⟨h9.1, h9.2, RL.Aft.lat hSW h9.2⟩))
    try go_frame
    refine' RL.tv 4 ?hk36 ?_
    case hk36 => (intro W hSW; go_simp; try with_reducible rfl)
    try go_frame
    refine' RL.tv 5 ?hk37 ?_
    case hk37 => (intro W hSW; have x1 := Cv.run_string_len (P := Tryz.prog) W 25 5 9 Tryz.underlying25 Tryz.underlying5 Tryz.underlying9 kb 0 32 32 ke HKE.out (Cv.Bytes.of_blk (aft_blk hSW Hkb.out)); go_simp; try with_reducible rfl)
    try go_frame
    refine' RL.tv 6 ?hk38 ?_
    case hk38 => (intro W hSW; go_simp; try with_reducible rfl)
    try go_frame
    refine' RL.tv 7 ?hk39 ?_
    case hk39 => (intro W hSW; go_simp; try with_reducible rfl)
    try go_frame
    refine' RL.tv 8 ?hk40 ?_
    case hk40 => (intro W hSW; have x1 := Cv.run_string_len (P := Tryz.prog) W 25 5 9 Tryz.underlying25 Tryz.underlying5 Tryz.underlying9 gb 0 64 64 l2 HLL.out (Cv.Bytes.of_blk (aft_blk hSW Hgb.out)); go_simp; try with_reducible rfl)
    try go_frame
    refine' RL.tc 9 (v := (.bool q)) 15 #[.string ⟨ke.toArray⟩, .string (bs m), .string ⟨l2.toArray⟩] ?hk41 ?hc41 ?_
    case hk41 => (intro W; go_simp; try with_reducible rfl)
    case hc41 => (intro W hSW; exact (CVR.out W).mono (fun e w9 h9 => ⟨h9.1, h9.2, RL.Aft.lat hSW h9.2⟩))
    try go_frame
    refine' RL.tv 10 ?hk42 ?_
    case hk42 => (intro W hSW; go_simp; try with_reducible rfl)
    try go_frame
    refine' RL.tv 11 ?hk43 ?_
    case hk43 => (intro W hSW; go_simp; try with_reducible rfl)
    try go_frame
    refine RL.done (by kernel_rfl) (fun Z hlZ hsZ => ?_)
    have HB := ϕ (HB.out.trans (Below.mono (show RL.Aft V3 Z from hsZ) HB.out.size))
    go_wp2_with fail
    go_ret
    exact ⟨by simp, HW.out ▸ HB.out⟩
  · have H3 := ϕ (show bits .and .i64 wh 3 = 1 from h3)
    clear h3
    have e3 : bits .and .i64 wh 3 = 1 := H3.out
    have ea : bits .and .i64 pa 65535 = (n : Int) := HN.out
    have x7 := (sgdV_at HKL.out HGL.out Hsb.out).2.1
    have x8 := (sgdV_at HKL.out HGL.out Hsb.out).2.2.1
    obtain ⟨q, hq⟩ : ∃ q, n % 32 = q := ⟨_, rfl⟩
    have hqn : q < 32 := by omega
    have HQN := ϕ hqn
    have HQ := ϕ (show (n : Int).tmod 32 = (q : Int) ∧ (0 : Int) ≤ q ∧ (q : Int) < 32 from ⟨by rw [Int.tmod_eq_emod_of_nonneg (by omega)]; omega, by omega, by omega⟩)
    obtain ⟨x, hx⟩ : ∃ x, ke[q]? = some x := ⟨_, List.getElem?_eq_getElem (by rw [HKE.out]; exact hqn)⟩
    have HX := ϕ hx
    obtain ⟨z, hz⟩ : ∃ z, x ^^^ y = z := ⟨_, rfl⟩
    have HXO := ϕ (show bits .xor .u8 (x.toNat : Int) (y.toNat : Int) = (z.toNat : Int) from hz ▸ xor_u8 x y)
    obtain ⟨l2, hl2⟩ : ∃ l, ke.set q z = l := ⟨_, rfl⟩
    have HL2 := ϕ hl2
    have HLL := ϕ (show l2.length = 32 from by rw [← hl2, List.length_set]; exact HKE.out)
    clear hq hqn hx hz hl2
    go_upto_region 13 with fail
    clear e3 ea x7 x8
    refine RL.start (fun W => Sp.Upd V2 W [kb]) (by kernel_rfl) (Sp.Upd.trans (Sp.Upd.refl _ _) (Sp.Upd.of_below (Below.drew (Below.refl _ _))) (by simp)) ?_
    refine' RL.tv 0 ?hk44 ?_
    case hk44 => (intro W hSW; go_simp; try with_reducible rfl)
    try go_frame
    refine' RL.tv 1 ?hk45 ?_
    case hk45 => (intro W hSW; have e1 := HQ.out; go_simp; try with_reducible rfl)
    try go_frame
    refine' RL.tv 2 ?hk46 ?_
    case hk46 => (intro W hSW; have e1 := HQ.out; go_simp; try with_reducible rfl)
    try go_frame
    refine' RL.tv 4 ?hk47 ?_
    case hk47 => (intro W hSW; go_simp; try with_reducible rfl)
    try go_frame
    refine' RL.tv 5 ?hk48 ?_
    case hk48 => (intro W hSW; have x1 := (sgdV_at HKL.out HGL.out (upd_blk hSW Hsb.out (by simp; exact HNE.out.1))).2.2.2.1; go_simp; try with_reducible rfl)
    try go_frame
    refine RL.sk 3 (fun q3 hlq3 hsq3 K hK => ?_)
    have hO := (Hkb.out.below (Below.drew (Below.refl _ _)) Hkb.out.lt).below hlq3 (by have := Hkb.out.lt; simpa using this)
    have x1 := hO.cell q (Cv.bytesV_get _ _ _ HX.out)
    refine wp_val (v := .int .u8 (x.toNat : Int)) (by go_simp; try rfl) ?_
    refine hK.out _ _ hsq3 ?_
    clear hK hO x1
    try go_frame
    refine' RL.tv 6 ?hk49 ?_
    case hk49 => (intro W hSW; have e1 := HXO.out; go_simp; try with_reducible rfl)
    try go_frame
    refine' RL.tv 7 ?hk50 ?_
    case hk50 => (intro W hSW; have e1 := HQ.out; go_simp; try with_reducible rfl)
    try go_frame
    refine RL.sk 8 (fun va hlva hsva K hK => ?_)
    have hO := (Hkb.out.below (Below.drew (Below.refl _ _)) Hkb.out.lt).below (hlq3.trans hlva) (by have := Hkb.out.lt; simpa using this)
    refine store_one_op 5 _ _ rfl kb q (.int .u8 (z.toNat : Int)) (Cv.bytesV ke) 22 rfl (by first | rfl | (simp [HXO.out]; done)) rfl hO (by kernel_rfl) (by rw [Cv.bytesV_size, HKE.out]; exact HQN.out) rfl ?_
    intro Y hY hgY
    refine hK.out _ _ (Sp.Upd.trans hsva (Sp.Upd.of_grown1 hgY) (fun q hq => .inl hq)) ?_
    clear hK
    try go_frame
    refine RL.done (by kernel_rfl) (fun V3 hlV3 hsV3 => ?_)
    have Hkb := ϕ (show Rg.Blk V3 kb 22 (Cv.bytesV l2) from HL2.out ▸ Cv.bytesV_set ke q z ▸ hY.below hlV3 hY.lt)
    have Hgb := ϕ (upd_blk hsV3 Hgb.out (by simp; exact HNE.out.2.2.2.2))
    have HB := ϕ (below_upd HB.out hsV3 (fun k hk => by simp at hk; rw [hk]; exact HGE.out.1) HB.out.size)
    have HG := ϕ (show Sg V3 from ⟨tab_upd HG.out.t hsV3 (by simp; exact HGE.out.2.2.1), ord_upd HG.out.o hsV3 HGE.out.2.2.2.2.1⟩)
    clear hO hY hgY hlva hsva hlq3 hsq3 hsV3 hlV3
    go_upto_region 16 with fail
    obtain ⟨q, hq⟩ : ∃ q, ver64 l2 m sg = q := ⟨_, rfl⟩
    have CVE := ϕ (fun W (h : Sg W) => show Calls Tryz.prog 14 #[.agg (Cv.bytesV l2), .string (bs m), .agg (Cv.bytesV sg)] W fun e w' => e = .returned (.bool q) ∧ Below W.heap.size W w' from hq ▸ ver64_own W l2 m sg HLL.out HML.out HSG.out h)
    have CVR := ϕ (fun W => show Calls Tryz.prog 15 #[.string ⟨l2.toArray⟩, .string (bs m), .string ⟨sg.toArray⟩] W fun e w' => e = .returned (.bool q) ∧ Below W.heap.size W w' from hq ▸ ver64_ref W l2 m sg HLL.out HML.out HSG.out)
    clear hq
    refine RL.start (RL.Aft V3) (by kernel_rfl) (RL.Aft.drew (RL.Aft.refl V3)) ?_
    refine RL.tw 0 (v := .agg (Cv.bytesV l2)) rfl (fun W hSW => RT.run_row 22 _ rfl _ rfl _ _ (aft_blk hSW Hkb.out) Tryz.underlying22 rfl (by rw [Cv.bytesV_size, HLL.out]; kernel_rfl)) ?_
    try go_frame
    refine' RL.tv 1 ?hk51 ?_
    case hk51 => (intro W hSW; go_simp; try with_reducible rfl)
    try go_frame
    refine RL.tw 2 (v := .agg (Cv.bytesV sg)) rfl (fun W hSW => RT.run_row 29 _ rfl _ rfl _ _ (aft_blk hSW Hgb.out) Tryz.underlying29 rfl (by rw [Cv.bytesV_size, HSG.out]; kernel_rfl)) ?_
    try go_frame
    refine' RL.tc 3 (v := (.bool q)) 14 #[.agg (Cv.bytesV l2), .string (bs m), .agg (Cv.bytesV sg)] ?hk52 ?hc52 ?_
    case hk52 => (intro W; go_simp; try with_reducible rfl)
    case hc52 => (intro W hSW; exact (CVE.out W (HG.out.aft hSW)).mono (fun e w9 h9 => ⟨h9.1, h9.2, RL.Aft.lat hSW h9.2⟩))
    try go_frame
    refine' RL.tv 4 ?hk53 ?_
    case hk53 => (intro W hSW; go_simp; try with_reducible rfl)
    try go_frame
    refine' RL.tv 5 ?hk54 ?_
    case hk54 => (intro W hSW; have x1 := Cv.run_string_len (P := Tryz.prog) W 25 5 9 Tryz.underlying25 Tryz.underlying5 Tryz.underlying9 kb 0 32 32 l2 HLL.out (Cv.Bytes.of_blk (aft_blk hSW Hkb.out)); go_simp; try with_reducible rfl)
    try go_frame
    refine' RL.tv 6 ?hk55 ?_
    case hk55 => (intro W hSW; go_simp; try with_reducible rfl)
    try go_frame
    refine' RL.tv 7 ?hk56 ?_
    case hk56 => (intro W hSW; go_simp; try with_reducible rfl)
    try go_frame
    refine' RL.tv 8 ?hk57 ?_
    case hk57 => (intro W hSW; have x1 := Cv.run_string_len (P := Tryz.prog) W 25 5 9 Tryz.underlying25 Tryz.underlying5 Tryz.underlying9 gb 0 64 64 sg HSG.out (Cv.Bytes.of_blk (aft_blk hSW Hgb.out)); go_simp; try with_reducible rfl)
    try go_frame
    refine' RL.tc 9 (v := (.bool q)) 15 #[.string ⟨l2.toArray⟩, .string (bs m), .string ⟨sg.toArray⟩] ?hk58 ?hc58 ?_
    case hk58 => (intro W; go_simp; try with_reducible rfl)
    case hc58 => (intro W hSW; exact (CVR.out W).mono (fun e w9 h9 => ⟨h9.1, h9.2, RL.Aft.lat hSW h9.2⟩))
    try go_frame
    refine' RL.tv 10 ?hk59 ?_
    case hk59 => (intro W hSW; go_simp; try with_reducible rfl)
    try go_frame
    refine' RL.tv 11 ?hk60 ?_
    case hk60 => (intro W hSW; go_simp; try with_reducible rfl)
    try go_frame
    refine RL.done (by kernel_rfl) (fun Z hlZ hsZ => ?_)
    have HB := ϕ (HB.out.trans (Below.mono (show RL.Aft V3 Z from hsZ) HB.out.size))
    go_wp2_with fail
    go_ret
    exact ⟨by simp, HW.out ▸ HB.out⟩
  · have H3 := ϕ (show bits .and .i64 wh 3 = 2 from h3)
    clear h3
    have e3 : bits .and .i64 wh 3 = 2 := H3.out
    have ea : bits .and .i64 pa 65535 = (n : Int) := HN.out
    have x7 := (sgdV_at HKL.out HGL.out Hsb.out).2.1
    have x8 := (sgdV_at HKL.out HGL.out Hsb.out).2.2.1
    have x9 := (sgdV_at HKL.out HGL.out Hsb.out).2.2.2.1
    have hsz : (bs m).size ≤ 1000000 := by rw [bs_size]; have := HML.out; omega
    have hsz1 : (⟨#[y]⟩ : ByteArray).size ≤ 1000000 := (show (1 : Nat) ≤ 1000000 from by decide)
    have HAP := ϕ (show bs m ++ ⟨#[y]⟩ = bs (m ++ [y]) from bs_app m [y])
    obtain ⟨m2, hm2⟩ : ∃ l, m ++ [y] = l := ⟨_, rfl⟩
    have HM2 := ϕ hm2
    have HML2 := ϕ (show m2.length ≤ 10000 from by rw [← hm2, List.length_append]; have := HMS.out; simp; omega)
    clear hm2
    go_upto_region 16 with (first
     | ((with_reducible refine gate_ ?_); refine Cv.conv_string rfl 25 5 9 _ rfl Tryz.underlying25 Tryz.underlying5 Tryz.underlying9 V2.heap.size 0 1 1 [y] rfl rfl (Cv.one_byte V2 _ _ y rfl) ?_; skip))
    rw [HAP.out, HM2.out]
    clear e3 ea x7 x8 x9 hsz hsz1
    have hba := (Below.refl V2.heap.size V2).alloc (Nat.le_refl _) (.cells #[.int .u8 (y.toNat : Int)] 5)
    have Hkb := ϕ (Hkb.out.below hba Hkb.out.lt)
    have Hgb := ϕ (Hgb.out.below hba Hgb.out.lt)
    have HG := ϕ (HG.out.below hba)
    have HB := tm HB hba
    clear hba Hsb
    generalize V2.alloc (.cells #[.int .u8 (y.toNat : Int)] 5) = V3 at *
    obtain ⟨q, hq⟩ : ∃ q, ver64 ke m2 sg = q := ⟨_, rfl⟩
    have CVE := ϕ (fun W (h : Sg W) => show Calls Tryz.prog 14 #[.agg (Cv.bytesV ke), .string (bs m2), .agg (Cv.bytesV sg)] W fun e w' => e = .returned (.bool q) ∧ Below W.heap.size W w' from hq ▸ ver64_own W ke m2 sg HKE.out HML2.out HSG.out h)
    have CVR := ϕ (fun W => show Calls Tryz.prog 15 #[.string ⟨ke.toArray⟩, .string (bs m2), .string ⟨sg.toArray⟩] W fun e w' => e = .returned (.bool q) ∧ Below W.heap.size W w' from hq ▸ ver64_ref W ke m2 sg HKE.out HML2.out HSG.out)
    clear hq
    refine RL.start (RL.Aft V3) (by kernel_rfl) (RL.Aft.drew (RL.Aft.refl V3)) ?_
    refine RL.tw 0 (v := .agg (Cv.bytesV ke)) rfl (fun W hSW => RT.run_row 22 _ rfl _ rfl _ _ (aft_blk hSW Hkb.out) Tryz.underlying22 rfl (by rw [Cv.bytesV_size, HKE.out]; kernel_rfl)) ?_
    try go_frame
    refine' RL.tv 1 ?hk61 ?_
    case hk61 => (intro W hSW; go_simp; try with_reducible rfl)
    try go_frame
    refine RL.tw 2 (v := .agg (Cv.bytesV sg)) rfl (fun W hSW => RT.run_row 29 _ rfl _ rfl _ _ (aft_blk hSW Hgb.out) Tryz.underlying29 rfl (by rw [Cv.bytesV_size, HSG.out]; kernel_rfl)) ?_
    try go_frame
    refine' RL.tc 3 (v := (.bool q)) 14 #[.agg (Cv.bytesV ke), .string (bs m2), .agg (Cv.bytesV sg)] ?hk62 ?hc62 ?_
    case hk62 => (intro W; go_simp; try with_reducible rfl)
    case hc62 => (intro W hSW; exact (CVE.out W (HG.out.aft hSW)).mono (fun e w9 h9 => ⟨h9.1, h9.2, RL.Aft.lat hSW h9.2⟩))
    try go_frame
    refine' RL.tv 4 ?hk63 ?_
    case hk63 => (intro W hSW; go_simp; try with_reducible rfl)
    try go_frame
    refine' RL.tv 5 ?hk64 ?_
    case hk64 => (intro W hSW; have x1 := Cv.run_string_len (P := Tryz.prog) W 25 5 9 Tryz.underlying25 Tryz.underlying5 Tryz.underlying9 kb 0 32 32 ke HKE.out (Cv.Bytes.of_blk (aft_blk hSW Hkb.out)); go_simp; try with_reducible rfl)
    try go_frame
    refine' RL.tv 6 ?hk65 ?_
    case hk65 => (intro W hSW; go_simp; try with_reducible rfl)
    try go_frame
    refine' RL.tv 7 ?hk66 ?_
    case hk66 => (intro W hSW; go_simp; try with_reducible rfl)
    try go_frame
    refine' RL.tv 8 ?hk67 ?_
    case hk67 => (intro W hSW; have x1 := Cv.run_string_len (P := Tryz.prog) W 25 5 9 Tryz.underlying25 Tryz.underlying5 Tryz.underlying9 gb 0 64 64 sg HSG.out (Cv.Bytes.of_blk (aft_blk hSW Hgb.out)); go_simp; try with_reducible rfl)
    try go_frame
    refine' RL.tc 9 (v := (.bool q)) 15 #[.string ⟨ke.toArray⟩, .string (bs m2), .string ⟨sg.toArray⟩] ?hk68 ?hc68 ?_
    case hk68 => (intro W; go_simp; try with_reducible rfl)
    case hc68 => (intro W hSW; exact (CVR.out W).mono (fun e w9 h9 => ⟨h9.1, h9.2, RL.Aft.lat hSW h9.2⟩))
    try go_frame
    refine' RL.tv 10 ?hk69 ?_
    case hk69 => (intro W hSW; go_simp; try with_reducible rfl)
    try go_frame
    refine' RL.tv 11 ?hk70 ?_
    case hk70 => (intro W hSW; go_simp; try with_reducible rfl)
    try go_frame
    refine RL.done (by kernel_rfl) (fun Z hlZ hsZ => ?_)
    have HB := ϕ (HB.out.trans (Below.mono (show RL.Aft V3 Z from hsZ) HB.out.size))
    go_wp2_with fail
    go_ret
    exact ⟨by simp, HW.out ▸ HB.out⟩
  · have H3 := ϕ (show bits .and .i64 wh 3 = 3 from h3)
    clear h3
    have e3 : bits .and .i64 wh 3 = 3 := H3.out
    have ea : bits .and .i64 pa 65535 = (n : Int) := HN.out
    have x7 := (sgdV_at HKL.out HGL.out Hsb.out).2.1
    have x8 := (sgdV_at HKL.out HGL.out Hsb.out).2.2.1
    go_upto_region 16 with fail
    clear e3 ea x7 x8
    obtain ⟨q, hq⟩ : ∃ q, ver64 ke m sg = q := ⟨_, rfl⟩
    have CVE := ϕ (fun W (h : Sg W) => show Calls Tryz.prog 14 #[.agg (Cv.bytesV ke), .string (bs m), .agg (Cv.bytesV sg)] W fun e w' => e = .returned (.bool q) ∧ Below W.heap.size W w' from hq ▸ ver64_own W ke m sg HKE.out HML.out HSG.out h)
    have CVR := ϕ (fun W => show Calls Tryz.prog 15 #[.string ⟨ke.toArray⟩, .string (bs m), .string ⟨sg.toArray⟩] W fun e w' => e = .returned (.bool q) ∧ Below W.heap.size W w' from hq ▸ ver64_ref W ke m sg HKE.out HML.out HSG.out)
    clear hq
    refine RL.start (RL.Aft V2) (by kernel_rfl) (RL.Aft.drew (RL.Aft.refl V2)) ?_
    refine RL.tw 0 (v := .agg (Cv.bytesV ke)) rfl (fun W hSW => RT.run_row 22 _ rfl _ rfl _ _ (aft_blk hSW Hkb.out) Tryz.underlying22 rfl (by rw [Cv.bytesV_size, HKE.out]; kernel_rfl)) ?_
    try go_frame
    refine' RL.tv 1 ?hk71 ?_
    case hk71 => (intro W hSW; go_simp; try with_reducible rfl)
    try go_frame
    refine RL.tw 2 (v := .agg (Cv.bytesV sg)) rfl (fun W hSW => RT.run_row 29 _ rfl _ rfl _ _ (aft_blk hSW Hgb.out) Tryz.underlying29 rfl (by rw [Cv.bytesV_size, HSG.out]; kernel_rfl)) ?_
    try go_frame
    refine' RL.tc 3 (v := (.bool q)) 14 #[.agg (Cv.bytesV ke), .string (bs m), .agg (Cv.bytesV sg)] ?hk72 ?hc72 ?_
    case hk72 => (intro W; go_simp; try with_reducible rfl)
    case hc72 => (intro W hSW; exact (CVE.out W (HG.out.aft hSW)).mono (fun e w9 h9 => ⟨h9.1, h9.2, RL.Aft.lat hSW h9.2⟩))
    try go_frame
    refine' RL.tv 4 ?hk73 ?_
    case hk73 => (intro W hSW; go_simp; try with_reducible rfl)
    try go_frame
    refine' RL.tv 5 ?hk74 ?_
    case hk74 => (intro W hSW; have x1 := Cv.run_string_len (P := Tryz.prog) W 25 5 9 Tryz.underlying25 Tryz.underlying5 Tryz.underlying9 kb 0 32 32 ke HKE.out (Cv.Bytes.of_blk (aft_blk hSW Hkb.out)); go_simp; try with_reducible rfl)
    try go_frame
    refine' RL.tv 6 ?hk75 ?_
    case hk75 => (intro W hSW; go_simp; try with_reducible rfl)
    try go_frame
    refine' RL.tv 7 ?hk76 ?_
    case hk76 => (intro W hSW; go_simp; try with_reducible rfl)
    try go_frame
    refine' RL.tv 8 ?hk77 ?_
    case hk77 => (intro W hSW; have x1 := Cv.run_string_len (P := Tryz.prog) W 25 5 9 Tryz.underlying25 Tryz.underlying5 Tryz.underlying9 gb 0 64 64 sg HSG.out (Cv.Bytes.of_blk (aft_blk hSW Hgb.out)); go_simp; try with_reducible rfl)
    try go_frame
    refine' RL.tc 9 (v := (.bool q)) 15 #[.string ⟨ke.toArray⟩, .string (bs m), .string ⟨sg.toArray⟩] ?hk78 ?hc78 ?_
    case hk78 => (intro W; go_simp; try with_reducible rfl)
    case hc78 => (intro W hSW; exact (CVR.out W).mono (fun e w9 h9 => ⟨h9.1, h9.2, RL.Aft.lat hSW h9.2⟩))
    try go_frame
    refine' RL.tv 10 ?hk79 ?_
    case hk79 => (intro W hSW; go_simp; try with_reducible rfl)
    try go_frame
    refine' RL.tv 11 ?hk80 ?_
    case hk80 => (intro W hSW; go_simp; try with_reducible rfl)
    try go_frame
    refine RL.done (by kernel_rfl) (fun Z hlZ hsZ => ?_)
    have HB := ϕ (HB.out.trans (Below.mono (show RL.Aft V2 Z from hsZ) HB.out.size))
    go_wp2_with fail
    go_ret
    exact ⟨by simp, HW.out ▸ HB.out⟩
end Go.Proofs.YtfpcelmekfdafaaGreatDoor.Kx
namespace Go.Proofs.YtfpcelmekfdafaaGreatDoor.Og
open Go.RowKit Go.ChangeShapes Go.WideShapes Go.Joins Go.Deep Go.Proofs.YtfpcelmekfdafaaGreatDoor.Ow
variable {H : Type} {enc : TypeId × Value → H} {P : Program} {W : World}
end Go.Proofs.YtfpcelmekfdafaaGreatDoor.Og
namespace Go.Proofs.YtfpcelmekfdafaaGreatDoor.Og
open Go.RowKit Go.ChangeShapes Go.WideShapes Go.Joins Go.Deep Go.Proofs.YtfpcelmekfdafaaGreatDoor.Ow
variable {H : Type} {enc : TypeId × Value → H} {P : Program} {W : World}
theorem arr_reads {t e : TypeId} {n fuel : Nat} {cs : List Value} {y : DataW H × List MemPlace} (ht : P.underlying t = some (.array n e)) (hc : P.cellsOf e = 1) (hC : P.cellsOf t = n) (h : DataW.trod enc P W 0 (fun _ => true) true fuel t cs = some y) : cs.length = n ∧ ∀ x ∈ cs, Reads enc P W e x := by
 obtain ⟨xs, m, _, _, hcl, hlen, hg⟩ := DataW.trod_array ht h
 have hcl : cs.length = n := hcl.trans hC
 refine ⟨hcl, fun x hx => ?_⟩
 obtain ⟨i, hi⟩ := List.mem_iff_getElem?.1 hx
 have hin : i < cs.length := (List.getElem?_eq_some_iff.1 hi).1
 have h1 := hg i (by omega)
 rw [hc, Nat.mul_one] at h1
 have e1 : (cs.drop i).take 1 = [x] := by
  rw [List.drop_eq_getElem_cons hin]
  rw [List.getElem?_eq_getElem hin] at hi
  injection hi with hi
  rw [hi]; rfl
 rw [e1, List.getElem?_eq_getElem (by omega)] at h1
 exact ⟨m, _, h1⟩
theorem arr_bytes {t e : TypeId} {n fuel : Nat} {cs : List Value} {y : DataW H × List MemPlace} (ht : P.underlying t = some (.array n e)) (he : P.underlying e = some (.int .u8)) (hc : P.cellsOf e = 1) (hC : P.cellsOf t = n) (h : DataW.trod enc P W 0 (fun _ => true) true fuel t cs = some y) : ∃ l : List UInt8, cs = Lib.byteCells l ∧ l.length = n := by
 obtain ⟨hl, hx⟩ := arr_reads ht hc hC h
 obtain ⟨l, rfl, _⟩ := map_of (f := fun (x : UInt8) => Value.int .u8 (x.toNat : Int)) (p := fun _ => True) (xs := cs) (fun x h => by
  obtain ⟨n, rfl, hw⟩ := open_int1 he (hx x h)
  have hb := bounds_u8 hw
  refine ⟨UInt8.ofNat n.toNat, ?_, trivial⟩
  have : (UInt8.ofNat n.toNat).toNat = n.toNat := by rw [UInt8.toNat_ofNat']; omega
  rw [this, Int.toNat_of_nonneg (by omega)])
 exact ⟨l, rfl, by simpa using hl⟩
end Go.Proofs.YtfpcelmekfdafaaGreatDoor.Og
namespace Go.Proofs.YtfpcelmekfdafaaGreatDoor.Kx
open Go.RowKit Go.ChangeShapes Go.WideShapes Go.Joins Go.Deep Go.Proofs.YtfpcelmekfdafaaGreatDoor.Ow Go.Proofs.YtfpcelmekfdafaaGreatDoor.Og
variable {H : Type} {enc : TypeId × Value → H} {W : World}
theorem sgF : ∃ f0 f1 f2 f3 f4 f5 f6 : Field, Tryz.prog.underlying 35 = some (.struct #[f0, f1, f2, f3, f4, f5, f6]) ∧ f0.type = 22 ∧ f1.type = 29 ∧ f2.type = 9 ∧ f3.type = 3 ∧ f4.type = 3 ∧ f5.type = 5 ∧ f6.type = 4 ∧ f0.offset = 0 ∧ f1.offset = 32 ∧ f2.offset = 96 ∧ f3.offset = 97 ∧ f4.offset = 98 ∧ f5.offset = 99 ∧ f6.offset = 100 := ⟨_, _, _, _, _, _, _, Tryz.underlying35, rfl, rfl, rfl, rfl, rfl, rfl, rfl, rfl, rfl, rfl, rfl, rfl, rfl, rfl⟩
theorem cut_off {α : Type} (l : List α) (a n : Nat) : l.drop a = (l.drop a).take n ++ l.drop (a + n) := by
 rw [← List.drop_drop, List.take_append_drop]
theorem open_signed {r : Reach} {b0 : Nat} {v : Value} {d : DataW H} {p : List MemPlace} (hv : Value.okWide Tryz.prog W r b0 35 v) (h : DataW.Trod enc Tryz.prog W 0 (fun _ => true) true 35 v d p) :
 ∃ (k g : List UInt8) (S : ByteArray) (wh pa : Int) (y : UInt8) (an : Bool), v = .agg (sgdV k g S wh pa y an) ∧ k.length = 32 ∧ g.length = 64 := by
 obtain ⟨f0, f1, f2, f3, f4, f5, f6, hs, t0, t1, t2, t3, t4, t5, t6, o0, o1, o2, o3, o4, o5, o6⟩ := sgF
 have c1 : Tryz.prog.cellsOf 9 = 1 := by kernel_rfl
 have ci : Tryz.prog.cellsOf 3 = 1 := by kernel_rfl
 have cb : Tryz.prog.cellsOf 4 = 1 := by kernel_rfl
 have c32 : Tryz.prog.cellsOf 22 = 32 := by kernel_rfl
 have c64 : Tryz.prog.cellsOf 29 = 64 := by kernel_rfl
 have cu : Tryz.prog.cellsOf 5 = 1 := by kernel_rfl
 have cE : Tryz.prog.cellsOf 35 = 101 := by kernel_rfl
 obtain ⟨cs, rfl, hsz⟩ := okWide_struct hs hv
 obtain ⟨fuel, hf⟩ := h
 have e0 : (Value.agg cs).cells.toList = cs.toList := by simp [Value.cells]
 rw [e0] at hf
 obtain ⟨xs, n, _, _, hcl, hlen, hg⟩ := DataW.trod_struct hs hf
 rw [cE] at hcl
 have hl7 : xs.length = 7 := hlen
 obtain ⟨L, hL⟩ : ∃ L, cs.toList = L := ⟨_, rfl⟩
 rw [hL] at hg hcl
 have g0 := hg 0 f0 rfl
 have g1 := hg 1 f1 rfl
 have g2 := hg 2 f2 rfl
 have g3 := hg 3 f3 rfl
 have g4 := hg 4 f4 rfl
 have g5 := hg 5 f5 rfl
 have g6 := hg 6 f6 rfl
 rw [t0, o0, c32, List.getElem?_eq_getElem (by omega)] at g0
 rw [t1, o1, c64, List.getElem?_eq_getElem (by omega)] at g1
 rw [t2, o2, c1, List.getElem?_eq_getElem (by omega)] at g2
 rw [t3, o3, ci, List.getElem?_eq_getElem (by omega)] at g3
 rw [t4, o4, ci, List.getElem?_eq_getElem (by omega)] at g4
 rw [t5, o5, cu, List.getElem?_eq_getElem (by omega)] at g5
 rw [t6, o6, cb, List.getElem?_eq_getElem (by omega)] at g6
 have one : ∀ j (hj : j < L.length), (L.drop j).take 1 = [L[j]] := fun j hj => by rw [List.drop_eq_getElem_cons hj]; rfl
 rw [one 96 (by omega)] at g2
 rw [one 97 (by omega)] at g3
 rw [one 98 (by omega)] at g4
 rw [one 99 (by omega)] at g5
 rw [one 100 (by omega)] at g6
 obtain ⟨la, qa, ha⟩ := arr_bytes Tryz.underlying22 Tryz.underlying5 cu c32 g0
 obtain ⟨lb, qb, hb⟩ := arr_bytes Tryz.underlying29 Tryz.underlying5 cu c64 g1
 obtain ⟨S, q2, _⟩ := open_str1 Tryz.underlying9 (show Reads enc Tryz.prog W 9 _ from ⟨n, _, g2⟩)
 obtain ⟨wh, q3, _⟩ := open_int1 Tryz.underlying3 (show Reads enc Tryz.prog W 3 _ from ⟨n, _, g3⟩)
 obtain ⟨pa, q4, _⟩ := open_int1 Tryz.underlying3 (show Reads enc Tryz.prog W 3 _ from ⟨n, _, g4⟩)
 obtain ⟨yn, q5, hy⟩ := open_int1 Tryz.underlying5 (show Reads enc Tryz.prog W 5 _ from ⟨n, _, g5⟩)
 obtain ⟨an, q6⟩ := open_bool1 Tryz.underlying4 (show Reads enc Tryz.prog W 4 _ from ⟨n, _, g6⟩)
 have hyb := bounds_u8 hy
 obtain ⟨y, ey⟩ : ∃ y : UInt8, (yn : Int) = (y.toNat : Int) := ⟨UInt8.ofNat yn.toNat, by
  have : (UInt8.ofNat yn.toNat).toNat = yn.toNat := by rw [UInt8.toNat_ofNat']; omega
  rw [this, Int.toNat_of_nonneg (by omega)]⟩
 rw [ey] at q5
 refine ⟨la, lb, S, wh, pa, y, an, ?_, ha, hb⟩
 refine congrArg Value.agg (Array.toList_inj.1 ?_)
 rw [hL]
 have e : L = (L.drop 0).take 32 ++ ((L.drop 32).take 64 ++ ((L.drop 96).take 1 ++ ((L.drop 97).take 1 ++ ((L.drop 98).take 1 ++ ((L.drop 99).take 1 ++ ((L.drop 100).take 1 ++ L.drop 101)))))) := by
  rw [← cut_off L 100 1, ← cut_off L 99 1, ← cut_off L 98 1, ← cut_off L 97 1, ← cut_off L 96 1, ← cut_off L 32 64, ← cut_off L 0 32, List.drop_zero]
 rw [e, qa, qb, one 96 (by omega), one 97 (by omega), one 98 (by omega), one 99 (by omega), one 100 (by omega), q2, q3, q4, q5, q6, List.drop_of_length_le (by omega)]
 unfold sgdV
 simp [bv, Lib.byteCells]
theorem law_SignVerifiesB (w : World) (k g : List UInt8) (S : ByteArray) (wh pa : Int) (y : UInt8) (an : Bool) (hk : k.length = 32) (hg : g.length = 64) (hT : Sha.Tables w) (hO : Ord w) : Calls Tryz.prog 5 #[.agg (sgdV k g S wh pa y an)] w fun e w' => e = .returned (.bool true) ∧ Below w.heap.size w w' := law_SignVerifies w k g S wh pa y an hk hg ⟨hT, hO⟩
end Go.Proofs.YtfpcelmekfdafaaGreatDoor.Kx
