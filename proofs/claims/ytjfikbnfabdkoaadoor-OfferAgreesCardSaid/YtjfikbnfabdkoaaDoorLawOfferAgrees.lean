/- The law OfferAgrees: the walk. -/
import Derived.Test.YtjfikbnfabdkoaaDoorOff8
import Derived.Test.YtjfikbnfabdkoaaDoorErrW
import Derived.Test.YtjfikbnfabdkoaaDoorOff6
import Derived.Test.YtjfikbnfabdkoaaDoorMsgFew
import Derived.Test.YtjfikbnfabdkoaaDoorMsgB
set_option linter.unusedVariables false
set_option linter.unusedSimpArgs false
namespace Go.Proofs.YtjfikbnfabdkoaaDoor.Of
open Go.RowKit Go.Proofs.YtjfikbnfabdkoaaDoor.Wi Go.Proofs.YtjfikbnfabdkoaaDoor.Ow Go.Proofs.YtjfikbnfabdkoaaDoor.Be Go.Proofs.YtjfikbnfabdkoaaDoor.Mg Go.Proofs.YtjfikbnfabdkoaaDoor.Sp
theorem eqS2 (w : World) : (Op.equalIn 9999 52 (.agg #[.string ⟨#[]⟩, .string ⟨#[]⟩]) (.agg #[.string ⟨#[]⟩, .string ⟨#[]⟩])).run Tryd.prog w = .ok true w := by kernel_rfl
theorem eqB2 (w : World) (a b c d : Bool) : (Op.equalIn 9999 53 (.agg #[.bool a, .bool b]) (.agg #[.bool c, .bool d])).run Tryd.prog w = .ok (a == c && b == d) w := by
  cases a <;> cases b <;> cases c <;> cases d <;> kernel_rfl
theorem eight (out : List ByteArray) (h : out.length = 8) : ∃ z0 z1 z2 z3 z4 z5 z6 z7, out = [z0, z1, z2, z3, z4, z5, z6, z7] := by
  match out, h with
  | [z0, z1, z2, z3, z4, z5, z6, z7], _ => exact ⟨_, _, _, _, _, _, _, _, rfl⟩
theorem eqB3 (w : World) (a b c d : Bool) : (Op.equalIn 10000 53 (.agg #[.bool a, .bool b]) (.agg #[.bool c, .bool d])).run Tryd.prog w = .ok (a == c && b == d) w := by
  cases a <;> cases b <;> cases c <;> cases d <;> kernel_rfl
theorem few_names (m : Msg) : ∀ l ∈ (few m).n, ∀ x ∈ l, x.size ≤ 1000000 := fun l hl x hx => by
  obtain ⟨y, _, rfl⟩ := List.mem_map.1 hl
  obtain ⟨z, _, rfl⟩ := List.mem_map.1 hx
  have := cut_size 70 z
  omega
theorem few_slices {w0 w w' : World} {m : Msg} {e : Ending} (h : FewPost w0 w m e w') : ∃ A1 n1 c1 A2 n2 c2 A3 n3 c3 A4 n4 c4, e = .returned (.agg #[.int .i64 m.kind, .slice A1 n1 c1, .slice A2 n2 c2, .slice A3 n3 c3, .slice A4 n4 c4]) ∧ (∀ V, Out w0.heap.size w.heap.size w' V → IsMsg V (few m) (.slice A1 n1 c1) (.slice A2 n2 c2) (.slice A3 n3 c3) (.slice A4 n4 c4)) ∧ Below w.heap.size w w' := by
  obtain ⟨xu, xs, xn, xb, rfl, hI, hb⟩ := h
  have h0 := hI w' (Out.refl _ _ _)
  obtain ⟨A1, n1, c1, rfl, _⟩ := h0.u
  obtain ⟨A2, n2, c2, rfl, _⟩ := h0.s
  obtain ⟨_, ⟨A3, n3, c3, rfl, _⟩, _⟩ := h0.n
  obtain ⟨A4, n4, c4, rfl, _⟩ := h0.b
  exact ⟨A1, n1, c1, A2, n2, c2, A3, n3, c3, A4, n4, c4, rfl, hI, hb⟩
set_option maxRecDepth 20000 in
set_option maxHeartbeats 16000000 in
theorem agrees0 (w : World) (ca sa : Msg) (vu vs vn vb zu zs zn zb : Value) (hp : IsMsg w ca vu vs vn vb) (hq : IsMsg w sa zu zs zn zb) (hu : ∀ x ∈ ca.u, x < 4294967296) (hu2 : ∀ x ∈ sa.u, x < 4294967296) (a : Nat → Addr) (hE : Ei.ErrsAll w a) (hT : TabR w) (hG : Ei.ErrTy w) (hno : (okm (few ca) && okm (few sa)) = false) :
    Calls Tryd.prog 6 #[.agg (mC ca.kind vu vs vn vb), .agg (mC sa.kind zu zs zn zb)] w fun e w' => e = .returned (.bool true) ∧ Below w.heap.size w w' := by
  have HAW := Lib.hid (show ∀ W, Below w.heap.size w W → Calls Tryd.prog 10 #[] W fun e w' => e = .returned (.bool true) ∧ Below W.heap.size W w' from fun W hW => awake13 W a ((ErrsO.of hE).below hW) (hT.below hW))
  have HFA := Lib.hid (fun W (hW : Below w.heap.size w W) => (Few_any w W hW ca _ _ _ _ hp).mono fun _ _ h => few_slices h)
  have HFB := Lib.hid (fun W (hW : Below w.heap.size w W) => (Few_any w W hW sa _ _ _ _ hq).mono fun _ _ h => few_slices h)
  have HCD := Lib.hid (show ∀ W, Below w.heap.size w W → Calls Tryd.prog 16 #[.iface 189 (.pointer (some (a 20)))] W fun e w' => e = .returned (.int .i64 20) ∧ W = w' from fun W hW => Ei.Code_any W a (hE.below hW) 20 (by decide))
  have HWH := Lib.hid (fun W (hW : Below w.heap.size w W) => Ei.Where_plain W (hG.below hW) (a 20))
  have HAG := Lib.hid (show ∀ W, Below w.heap.size w W → ∀ xu xs xn xb yu ys yn yb, IsMsg W (few ca) xu xs xn xb → IsMsg W (few sa) yu ys yn yb → Calls Tryd.prog 24 #[.agg #[.int .i64 ca.kind, xu, xs, xn, xb], .agg #[.int .i64 sa.kind, yu, ys, yn, yb]] W fun e w' => e = .returned (.tuple #[.agg #[.string ⟨#[]⟩, .string ⟨#[]⟩, .string ⟨#[]⟩, .string ⟨#[]⟩, .string ⟨#[]⟩, .string ⟨#[]⟩, .string ⟨#[]⟩, .string ⟨#[]⟩, .bool false, .bool false], .iface 189 (.pointer (some (a 20)))]) ∧ Below W.heap.size W w' from fun W hW xu xs xn xb yu ys yn yb h1 h2 => (Agree_any W a ((ErrsO.of hE).below hW) (hT.below hW) (few ca) (few sa) xu xs xn xb yu ys yn yb h1 h2 (few_fit ca hu) (few_fit sa hu2)).mono fun e w' h => ⟨h.no hno, h.bel⟩)
  have HRA := Lib.hid (show ∀ W, Below w.heap.size w W → ∀ xu xs xn xb yu ys yn yb, IsMsg W (few ca) xu xs xn xb → IsMsg W (few sa) yu ys yn yb → Calls Tryd.prog 25 #[.agg #[.int .i64 ca.kind, xu, xs, xn, xb], .agg #[.int .i64 sa.kind, yu, ys, yn, yb]] W fun e w' => e = .returned (.tuple #[.slice none 0 0, .int .i64 20, .string ⟨#[]⟩]) ∧ Below W.heap.size W w' from fun W hW xu xs xn xb yu ys yn yb h1 h2 => (RefAgree_any W (few ca) (few sa) xu xs xn xb yu ys yn yb h1 h2 (few_fit ca hu) (few_fit sa hu2)).mono fun e w' h => ⟨h.no hno, h.bel⟩)
  have HEA := Lib.hid hE
  have HGT := Lib.hid hG
  have HNO := Lib.hid hno
  have HFP := Lib.hid (few_fit ca hu)
  have HFQ := Lib.hid (few_fit sa hu2)
  obtain ⟨pu, pnu, pcu, rfl, _⟩ := hp.u
  obtain ⟨ps, pns, pcs, rfl, _⟩ := hp.s
  obtain ⟨pvals, ⟨pn, pnn, pcn, rfl, pln, pR, ple, pmx⟩, pvl, pvn⟩ := hp.n
  obtain ⟨pb, pnb, pcb, rfl, plb, pRb, pbe, pbm⟩ := hp.b
  obtain ⟨qu, qnu, qcu, rfl, _⟩ := hq.u
  obtain ⟨qs, qns, qcs, rfl, _⟩ := hq.s
  obtain ⟨qvals, ⟨qn, qnn, qcn, rfl, qln, qR, qle, qmx⟩, qvl, qvn⟩ := hq.n
  obtain ⟨qb, qnb, qcb, rfl, qlb, qRb, qbe, qbm⟩ := hq.b
  clear hp hq hu hu2 hE hT hG hno pln qln pvl qvl ple qle pbe qbe pRb qRb plb qlb pmx qmx pbm qbm pR qR pvn qvn
  unfold mC at *
  have HX0 := Lib.hid (show Mem w [] ((w.alloc (.cells #[.int .i64 ca.kind, .slice pu pnu pcu, .slice ps pns pcs, .slice pn pnn pcn, .slice pb pnb pcb] 36)).alloc (.cells #[.int .i64 sa.kind, .slice qu qnu qcu, .slice qs qns qcs, .slice qn qnn qcn, .slice qb qnb qcb] 36)) [Sp.blk w.heap.size 36 #[.int .i64 ca.kind, .slice pu pnu pcu, .slice ps pns pcs, .slice pn pnn pcn, .slice pb pnb pcb], Sp.blk (w.heap.size + 1) 36 #[.int .i64 sa.kind, .slice qu qnu qcu, .slice qs qns qcs, .slice qn qnn qcn, .slice qb qnb qcb]] by
    have h := ((Mem.start w).alloc #[.int .i64 ca.kind, .slice pu pnu pcu, .slice ps pns pcs, .slice pn pnn pcn, .slice pb pnb pcb] 36).alloc #[.int .i64 sa.kind, .slice qu qnu qcu, .slice qs qns qcs, .slice qn qnn qcn, .slice qb qnb qcb] 36
    rw [World.size_alloc] at h
    exact h)
  go_enter Tryd.func6, Tryd.ntmps6
  go_upto_region 3 with (go_at_call 10; refine (HAW.out _ HX0.out.bel).mono ?_; rintro e w1 ⟨rfl, hb1⟩; skip; have HM := Lib.hid (HX0.out.below hb1); clear hb1)
  have HB0 := Lib.hid (HM.out.blk 0 rfl)
  have HB1 := Lib.hid (HM.out.blk 1 rfl)
  refine RT.start (RL.Aft w1) 4 2 (by kernel_rfl) (by decide) rfl (by kernel_rfl) (by kernel_rfl) (RL.Aft.drew (RL.Aft.refl w1)) ?_
  refine RT.takeV (i := 0) (v := .agg #[.int .i64 ca.kind, .slice pu pnu pcu, .slice ps pns pcs, .slice pn pnn pcn, .slice pb pnb pcb]) rfl (by kernel_rfl) (by kernel_rfl) (by kernel_rfl) (by decide) (fun _ _ _ h => h) (by rfl) (fun W hSW => RT.run_row 36 _ rfl _ rfl _ _ (HB0.out.below hSW HB0.out.lt) Tryd.underlying36 rfl (by kernel_rfl)) ?_
  (try simp only [Act.put, List.setIfInBounds_toArray, List.set_cons_zero, List.set_cons_succ])
  refine RT.takeV (i := 2) (v := .agg #[.int .i64 sa.kind, .slice qu qnu qcu, .slice qs qns qcs, .slice qn qnn qcn, .slice qb qnb qcb]) rfl (by kernel_rfl) (by kernel_rfl) (by kernel_rfl) (by decide) (fun _ _ _ h => h) (by rfl) (fun W hSW => RT.run_row 36 _ rfl _ rfl _ _ (HB1.out.below hSW HB1.out.lt) Tryd.underlying36 rfl (by kernel_rfl)) ?_
  (try simp only [Act.put, List.setIfInBounds_toArray, List.set_cons_zero, List.set_cons_succ])
  refine RT.stepK (i := 1) rfl (by kernel_rfl) (by decide) (by rfl) (fun wa hlwa hswa K hK => ?_)
  have hca := HFA.out wa (HM.out.bel.trans (Below.mono hswa HM.out.bel.size))
  go_simp
  refine hca.mono ?_
  rintro e wa2 ⟨xu, xnu, xcu, xs, xns, xcs, xn, xnn, xcn, xb, xnb, xcb, rfl, hIa, hba⟩
  have HIa := Lib.hid hIa
  have HLa := Lib.hid (show w1.heap.size ≤ wa.heap.size from Below.size hswa)
  refine hK.out _ _ (RL.Aft.lat hswa hba) ?_
  clear hK hca hIa hba
  (try simp only [Act.put, List.setIfInBounds_toArray, List.set_cons_zero, List.set_cons_succ])
  refine RT.stepK (i := 3) rfl (by kernel_rfl) (by decide) (by rfl) (fun wb hlwb hswb K hK => ?_)
  have hcb := HFB.out wb (HM.out.bel.trans (Below.mono hswb HM.out.bel.size))
  go_simp
  refine hcb.mono ?_
  rintro e wb2 ⟨yu, ynu, ycu, ys, yns, ycs, yn, ynn, ycn, yb, ynb, ycb, rfl, hIb, hbb⟩
  have HIb := Lib.hid hIb
  have HLb := Lib.hid (show w1.heap.size ≤ wb.heap.size from Below.size hswb)
  refine hK.out _ _ (RL.Aft.lat hswb hbb) ?_
  clear hK hcb hIb
  (try simp only [Act.put, List.setIfInBounds_toArray, List.set_cons_zero, List.set_cons_succ])
  refine RT.tail (by kernel_rfl) rfl rfl ?_
  intro wd hlwd hswd
  have HMD := Lib.hid (HM.out.below hswd)
  refine Cv.store_blk rfl 36 _ _ rfl w.heap.size #[.int .i64 ca.kind, .slice xu xnu xcu, .slice xs xns xcs, .slice xn xnn xcn, .slice xb xnb xcb] #[.int .i64 ca.kind, .slice pu pnu pcu, .slice ps pns pcs, .slice pn pnn pcn, .slice pb pnb pcb] 36 rfl rfl (HMD.out.blk 0 rfl) (by kernel_rfl) rfl (by simp [Value.oneCell']) ?_
  intro U hU hgU
  have hm := HMD.out.store 0 rfl hU hgU
  simp only [List.set_cons_zero, List.set_cons_succ] at hm
  refine Cv.store_blk rfl 36 _ _ rfl (w.heap.size + 1) #[.int .i64 sa.kind, .slice yu ynu ycu, .slice ys yns ycs, .slice yn ynn ycn, .slice yb ynb ycb] #[.int .i64 sa.kind, .slice qu qnu qcu, .slice qs qns qcs, .slice qn qnn qcn, .slice qb qnb qcb] 36 rfl rfl (hm.blk 1 rfl) (by kernel_rfl) rfl (by simp [Value.oneCell']) ?_
  intro V hV hgV
  have hm2 := hm.store 1 rfl hV hgV
  simp only [List.set_cons_zero, List.set_cons_succ] at hm2
  have HIA := Lib.hid (HIa.out V ((((((Out.refl _ _ _).below hlwb).below hbb).below hlwd).grown hgU (Nat.le_refl _) (by have := HB1.out.lt; have := HLa.out; omega)).grown hgV (Nat.le_succ _) (by have := HB1.out.lt; have := HLa.out; omega)))
  have HIB := Lib.hid (HIb.out V ((((Out.refl _ _ _).below hlwd).grown hgU (Nat.le_refl _) (by have := HB1.out.lt; have := HLb.out; omega)).grown hgV (Nat.le_succ _) (by have := HB1.out.lt; have := HLb.out; omega)))
  clear HM
  have HM := Lib.hid hm2
  clear hm hm2 hU hgU hV hgV hlwa hswa hlwb hswb hbb hlwd hswd HB0 HB1 HIa HIb HLa HLb HMD HX0
  have HB0 := Lib.hid (HM.out.blk 0 rfl)
  have HB1 := Lib.hid (HM.out.blk 1 rfl)
  go_upto_region 5 with (first
    | (refine wpList_load_row rfl 36 _ rfl _ rfl _ _ _ _ HB0.out Tryd.underlying36 rfl (by kernel_rfl) ?_; skip)
    | (refine wpList_load_row rfl 36 _ rfl _ rfl _ _ _ _ HB1.out Tryd.underlying36 rfl (by kernel_rfl) ?_; skip)
    | (go_at_call 24; refine (HAG.out _ HM.out.bel _ _ _ _ _ _ _ _ HIA.out HIB.out).mono ?_; rintro e w2 ⟨rfl, hb2⟩
       have HMx := Lib.hid (HM.out.below hb2); clear HM; have HM := HMx; clear HMx; have HIAx := Lib.hid (HIA.out.below hb2); clear HIA; have HIA := HIAx; clear HIAx; have HIBx := Lib.hid (HIB.out.below hb2); clear HIB; have HIB := HIBx; clear HIBx; have HB0x := Lib.hid (HM.out.blk 0 rfl); clear HB0; have HB0 := HB0x; clear HB0x; have HB1x := Lib.hid (HM.out.blk 1 rfl); clear HB1; have HB1 := HB1x; clear HB1x
       clear hb2)
    | (refine Rg.store_fresh rfl 55 _ _ rfl #[.string ⟨#[]⟩, .string ⟨#[]⟩, .string ⟨#[]⟩, .string ⟨#[]⟩, .string ⟨#[]⟩, .string ⟨#[]⟩, .string ⟨#[]⟩, .string ⟨#[]⟩, .bool false, .bool false] _ 55 rfl rfl (by kernel_rfl) rfl (by simp [Value.oneCell']) ?_
       intro Y hY hbY
       have HMx := Lib.hid (HM.out.below hbY); clear HM; have HM := HMx; clear HMx; have HIAx := Lib.hid (HIA.out.below hbY); clear HIA; have HIA := HIAx; clear HIAx; have HIBx := Lib.hid (HIB.out.below hbY); clear HIB; have HIB := HIBx; clear HIBx; have HB0x := Lib.hid (HM.out.blk 0 rfl); clear HB0; have HB0 := HB0x; clear HB0x; have HB1x := Lib.hid (HM.out.blk 1 rfl); clear HB1; have HB1 := HB1x; clear HB1x
       have HC := Lib.hid hY
       clear hY hbY))
  have HCL := Lib.hid HC.out.lt
  generalize w2.heap.size = P at *
  go_upto_region 6 with (first
    | (refine wpList_load_row rfl 36 _ rfl _ rfl _ _ _ _ HB0.out Tryd.underlying36 rfl (by kernel_rfl) ?_; skip)
    | (refine wpList_load_row rfl 36 _ rfl _ rfl _ _ _ _ HB1.out Tryd.underlying36 rfl (by kernel_rfl) ?_; skip)
    | (go_at_call 25; refine (HRA.out _ HM.out.bel _ _ _ _ _ _ _ _ HIA.out HIB.out).mono ?_; rintro e w3 ⟨rfl, hb3⟩
       have HMx := Lib.hid (HM.out.below hb3); clear HM; have HM := HMx; clear HMx; have HIAx := Lib.hid (HIA.out.below hb3); clear HIA; have HIA := HIAx; clear HIAx; have HIBx := Lib.hid (HIB.out.below hb3); clear HIB; have HIB := HIBx; clear HIBx; have HB0x := Lib.hid (HM.out.blk 0 rfl); clear HB0; have HB0 := HB0x; clear HB0x; have HB1x := Lib.hid (HM.out.blk 1 rfl); clear HB1; have HB1 := HB1x; clear HB1x; have HCx := Lib.hid (HC.out.below hb3 HC.out.lt); clear HC; have HC := HCx; clear HCx
       clear hb3))
  have eS := eqS2
  have eB : ∀ w, (Op.equalIn 9999 53 (.agg #[.bool false, .bool false]) (.agg #[.bool false, .bool false])).run Tryd.prog w = .ok true w := fun w => eqB2 w false false false false
  go_wp2_with (first
    | (go_at_call 16; refine (HCD.out _ HM.out.bel).mono ?_; rintro e w4 ⟨rfl, rfl⟩; skip)
    | (go_at_call 26; refine (HWH.out _ HM.out.bel).mono ?_; rintro e w5 ⟨rfl, hb5⟩
       have HMx := Lib.hid (HM.out.below hb5); clear HM; have HM := HMx; clear HMx; have HIAx := Lib.hid (HIA.out.below hb5); clear HIA; have HIA := HIAx; clear HIAx; have HIBx := Lib.hid (HIB.out.below hb5); clear HIB; have HIB := HIBx; clear HIBx; have HB0x := Lib.hid (HM.out.blk 0 rfl); clear HB0; have HB0 := HB0x; clear HB0x; have HB1x := Lib.hid (HM.out.blk 1 rfl); clear HB1; have HB1 := HB1x; clear HB1x; have HCx := Lib.hid (HC.out.below hb5 HC.out.lt); clear HC; have HC := HCx; clear HCx
       clear hb5)
    | (refine wpList_load_row rfl 55 _ rfl _ rfl _ _ _ _ HC.out Tryd.underlying55 rfl (by kernel_rfl) ?_; skip)
    )
  go_ret
  exact ⟨rfl, HM.out.bel⟩
set_option maxRecDepth 20000 in
set_option maxHeartbeats 16000000 in
theorem agrees1 (w : World) (ca sa : Msg) (vu vs vn vb zu zs zn zb : Value) (hp : IsMsg w ca vu vs vn vb) (hq : IsMsg w sa zu zs zn zb) (hu : ∀ x ∈ ca.u, x < 4294967296) (hu2 : ∀ x ∈ sa.u, x < 4294967296) (a : Nat → Addr) (hE : Ei.ErrsAll w a) (hT : TabR w) (hG : Ei.ErrTy w) (hno : (okm (few ca) && okm (few sa)) = true) (out : List ByteArray) (i : Nat) (hag : agr (few ca).n (few sa).n 8 [] = (out, some i)) :
    Calls Tryd.prog 6 #[.agg (mC ca.kind vu vs vn vb), .agg (mC sa.kind zu zs zn zb)] w fun e w' => e = .returned (.bool true) ∧ Below w.heap.size w w' := by
  have HAW := Lib.hid (show ∀ W, Below w.heap.size w W → Calls Tryd.prog 10 #[] W fun e w' => e = .returned (.bool true) ∧ Below W.heap.size W w' from fun W hW => awake13 W a ((ErrsO.of hE).below hW) (hT.below hW))
  have HFA := Lib.hid (fun W (hW : Below w.heap.size w W) => (Few_any w W hW ca _ _ _ _ hp).mono fun _ _ h => few_slices h)
  have HFB := Lib.hid (fun W (hW : Below w.heap.size w W) => (Few_any w W hW sa _ _ _ _ hq).mono fun _ _ h => few_slices h)
  obtain ⟨nm, hnm⟩ : ∃ nm, whereL.getD i e0 = nm := ⟨_, rfl⟩
  have HCD := Lib.hid (fun W (hW : Below w.heap.size w W) fb (h : Rg.Blk W fb 92 #[.string nm, .iface 189 (.pointer (some (a 13)))]) => Ei.Code_fault W a (hE.below hW) 13 (by decide) (by decide) fb nm h)
  have HWH := Lib.hid (fun W (hW : Below w.heap.size w W) fb (h : Rg.Blk W fb 92 #[.string nm, .iface 189 (.pointer (some (a 13)))]) => Ei.Where_fault W (hG.below hW) fb nm _ h)
  have HAG := Lib.hid (show ∀ W, Below w.heap.size w W → ∀ xu xs xn xb yu ys yn yb, IsMsg W (few ca) xu xs xn xb → IsMsg W (few sa) yu ys yn yb → Calls Tryd.prog 24 #[.agg #[.int .i64 ca.kind, xu, xs, xn, xb], .agg #[.int .i64 sa.kind, yu, ys, yn, yb]] W fun e w' => ∃ fb, e = .returned (.tuple #[.agg #[.string ⟨#[]⟩, .string ⟨#[]⟩, .string ⟨#[]⟩, .string ⟨#[]⟩, .string ⟨#[]⟩, .string ⟨#[]⟩, .string ⟨#[]⟩, .string ⟨#[]⟩, .bool false, .bool false], .iface 88 (.pointer (some ⟨fb, 0, none⟩))]) ∧ Rg.Blk w' fb 92 #[.string nm, .iface 189 (.pointer (some (a 13)))] ∧ Below W.heap.size W w' from fun W hW xu xs xn xb yu ys yn yb h1 h2 => (Agree_any W a ((ErrsO.of hE).below hW) (hT.below hW) (few ca) (few sa) xu xs xn xb yu ys yn yb h1 h2 (few_fit ca hu) (few_fit sa hu2)).mono fun e w' h => by obtain ⟨fb, e1, e2⟩ := h.flt hno _ _ hag; rw [hnm] at e2; exact ⟨fb, e1, e2, h.bel⟩)
  have HRA := Lib.hid (show ∀ W, Below w.heap.size w W → ∀ xu xs xn xb yu ys yn yb, IsMsg W (few ca) xu xs xn xb → IsMsg W (few sa) yu ys yn yb → Calls Tryd.prog 25 #[.agg #[.int .i64 ca.kind, xu, xs, xn, xb], .agg #[.int .i64 sa.kind, yu, ys, yn, yb]] W fun e w' => e = .returned (.tuple #[.slice none 0 0, .int .i64 13, .string nm]) ∧ Below W.heap.size W w' from fun W hW xu xs xn xb yu ys yn yb h1 h2 => (RefAgree_any W (few ca) (few sa) xu xs xn xb yu ys yn yb h1 h2 (few_fit ca hu) (few_fit sa hu2)).mono fun e w' h => by have h2 := h.flt hno _ _ hag; rw [hnm] at h2; exact ⟨h2, h.bel⟩)
  have HEA := Lib.hid hE
  have HGT := Lib.hid hG
  have HNO := Lib.hid hno
  have HFP := Lib.hid (few_fit ca hu)
  have HFQ := Lib.hid (few_fit sa hu2)
  have HAR := Lib.hid hag
  clear hag
  obtain ⟨pu, pnu, pcu, rfl, _⟩ := hp.u
  obtain ⟨ps, pns, pcs, rfl, _⟩ := hp.s
  obtain ⟨pvals, ⟨pn, pnn, pcn, rfl, pln, pR, ple, pmx⟩, pvl, pvn⟩ := hp.n
  obtain ⟨pb, pnb, pcb, rfl, plb, pRb, pbe, pbm⟩ := hp.b
  obtain ⟨qu, qnu, qcu, rfl, _⟩ := hq.u
  obtain ⟨qs, qns, qcs, rfl, _⟩ := hq.s
  obtain ⟨qvals, ⟨qn, qnn, qcn, rfl, qln, qR, qle, qmx⟩, qvl, qvn⟩ := hq.n
  obtain ⟨qb, qnb, qcb, rfl, qlb, qRb, qbe, qbm⟩ := hq.b
  clear hp hq hu hu2 hE hT hG hno pln qln pvl qvl ple qle pbe qbe pRb qRb plb qlb pmx qmx pbm qbm pR qR pvn qvn
  unfold mC at *
  have HX0 := Lib.hid (show Mem w [] ((w.alloc (.cells #[.int .i64 ca.kind, .slice pu pnu pcu, .slice ps pns pcs, .slice pn pnn pcn, .slice pb pnb pcb] 36)).alloc (.cells #[.int .i64 sa.kind, .slice qu qnu qcu, .slice qs qns qcs, .slice qn qnn qcn, .slice qb qnb qcb] 36)) [Sp.blk w.heap.size 36 #[.int .i64 ca.kind, .slice pu pnu pcu, .slice ps pns pcs, .slice pn pnn pcn, .slice pb pnb pcb], Sp.blk (w.heap.size + 1) 36 #[.int .i64 sa.kind, .slice qu qnu qcu, .slice qs qns qcs, .slice qn qnn qcn, .slice qb qnb qcb]] by
    have h := ((Mem.start w).alloc #[.int .i64 ca.kind, .slice pu pnu pcu, .slice ps pns pcs, .slice pn pnn pcn, .slice pb pnb pcb] 36).alloc #[.int .i64 sa.kind, .slice qu qnu qcu, .slice qs qns qcs, .slice qn qnn qcn, .slice qb qnb qcb] 36
    rw [World.size_alloc] at h
    exact h)
  go_enter Tryd.func6, Tryd.ntmps6
  go_upto_region 3 with (go_at_call 10; refine (HAW.out _ HX0.out.bel).mono ?_; rintro e w1 ⟨rfl, hb1⟩; skip; have HM := Lib.hid (HX0.out.below hb1); clear hb1)
  have HB0 := Lib.hid (HM.out.blk 0 rfl)
  have HB1 := Lib.hid (HM.out.blk 1 rfl)
  refine RT.start (RL.Aft w1) 4 2 (by kernel_rfl) (by decide) rfl (by kernel_rfl) (by kernel_rfl) (RL.Aft.drew (RL.Aft.refl w1)) ?_
  refine RT.takeV (i := 0) (v := .agg #[.int .i64 ca.kind, .slice pu pnu pcu, .slice ps pns pcs, .slice pn pnn pcn, .slice pb pnb pcb]) rfl (by kernel_rfl) (by kernel_rfl) (by kernel_rfl) (by decide) (fun _ _ _ h => h) (by rfl) (fun W hSW => RT.run_row 36 _ rfl _ rfl _ _ (HB0.out.below hSW HB0.out.lt) Tryd.underlying36 rfl (by kernel_rfl)) ?_
  (try simp only [Act.put, List.setIfInBounds_toArray, List.set_cons_zero, List.set_cons_succ])
  refine RT.takeV (i := 2) (v := .agg #[.int .i64 sa.kind, .slice qu qnu qcu, .slice qs qns qcs, .slice qn qnn qcn, .slice qb qnb qcb]) rfl (by kernel_rfl) (by kernel_rfl) (by kernel_rfl) (by decide) (fun _ _ _ h => h) (by rfl) (fun W hSW => RT.run_row 36 _ rfl _ rfl _ _ (HB1.out.below hSW HB1.out.lt) Tryd.underlying36 rfl (by kernel_rfl)) ?_
  (try simp only [Act.put, List.setIfInBounds_toArray, List.set_cons_zero, List.set_cons_succ])
  refine RT.stepK (i := 1) rfl (by kernel_rfl) (by decide) (by rfl) (fun wa hlwa hswa K hK => ?_)
  have hca := HFA.out wa (HM.out.bel.trans (Below.mono hswa HM.out.bel.size))
  go_simp
  refine hca.mono ?_
  rintro e wa2 ⟨xu, xnu, xcu, xs, xns, xcs, xn, xnn, xcn, xb, xnb, xcb, rfl, hIa, hba⟩
  have HIa := Lib.hid hIa
  have HLa := Lib.hid (show w1.heap.size ≤ wa.heap.size from Below.size hswa)
  refine hK.out _ _ (RL.Aft.lat hswa hba) ?_
  clear hK hca hIa hba
  (try simp only [Act.put, List.setIfInBounds_toArray, List.set_cons_zero, List.set_cons_succ])
  refine RT.stepK (i := 3) rfl (by kernel_rfl) (by decide) (by rfl) (fun wb hlwb hswb K hK => ?_)
  have hcb := HFB.out wb (HM.out.bel.trans (Below.mono hswb HM.out.bel.size))
  go_simp
  refine hcb.mono ?_
  rintro e wb2 ⟨yu, ynu, ycu, ys, yns, ycs, yn, ynn, ycn, yb, ynb, ycb, rfl, hIb, hbb⟩
  have HIb := Lib.hid hIb
  have HLb := Lib.hid (show w1.heap.size ≤ wb.heap.size from Below.size hswb)
  refine hK.out _ _ (RL.Aft.lat hswb hbb) ?_
  clear hK hcb hIb
  (try simp only [Act.put, List.setIfInBounds_toArray, List.set_cons_zero, List.set_cons_succ])
  refine RT.tail (by kernel_rfl) rfl rfl ?_
  intro wd hlwd hswd
  have HMD := Lib.hid (HM.out.below hswd)
  refine Cv.store_blk rfl 36 _ _ rfl w.heap.size #[.int .i64 ca.kind, .slice xu xnu xcu, .slice xs xns xcs, .slice xn xnn xcn, .slice xb xnb xcb] #[.int .i64 ca.kind, .slice pu pnu pcu, .slice ps pns pcs, .slice pn pnn pcn, .slice pb pnb pcb] 36 rfl rfl (HMD.out.blk 0 rfl) (by kernel_rfl) rfl (by simp [Value.oneCell']) ?_
  intro U hU hgU
  have hm := HMD.out.store 0 rfl hU hgU
  simp only [List.set_cons_zero, List.set_cons_succ] at hm
  refine Cv.store_blk rfl 36 _ _ rfl (w.heap.size + 1) #[.int .i64 sa.kind, .slice yu ynu ycu, .slice ys yns ycs, .slice yn ynn ycn, .slice yb ynb ycb] #[.int .i64 sa.kind, .slice qu qnu qcu, .slice qs qns qcs, .slice qn qnn qcn, .slice qb qnb qcb] 36 rfl rfl (hm.blk 1 rfl) (by kernel_rfl) rfl (by simp [Value.oneCell']) ?_
  intro V hV hgV
  have hm2 := hm.store 1 rfl hV hgV
  simp only [List.set_cons_zero, List.set_cons_succ] at hm2
  have HIA := Lib.hid (HIa.out V ((((((Out.refl _ _ _).below hlwb).below hbb).below hlwd).grown hgU (Nat.le_refl _) (by have := HB1.out.lt; have := HLa.out; omega)).grown hgV (Nat.le_succ _) (by have := HB1.out.lt; have := HLa.out; omega)))
  have HIB := Lib.hid (HIb.out V ((((Out.refl _ _ _).below hlwd).grown hgU (Nat.le_refl _) (by have := HB1.out.lt; have := HLb.out; omega)).grown hgV (Nat.le_succ _) (by have := HB1.out.lt; have := HLb.out; omega)))
  clear HM
  have HM := Lib.hid hm2
  clear hm hm2 hU hgU hV hgV hlwa hswa hlwb hswb hbb hlwd hswd HB0 HB1 HIa HIb HLa HLb HMD HX0
  have HB0 := Lib.hid (HM.out.blk 0 rfl)
  have HB1 := Lib.hid (HM.out.blk 1 rfl)
  go_upto_region 5 with (first
    | (refine wpList_load_row rfl 36 _ rfl _ rfl _ _ _ _ HB0.out Tryd.underlying36 rfl (by kernel_rfl) ?_; skip)
    | (refine wpList_load_row rfl 36 _ rfl _ rfl _ _ _ _ HB1.out Tryd.underlying36 rfl (by kernel_rfl) ?_; skip)
    | (go_at_call 24; refine (HAG.out _ HM.out.bel _ _ _ _ _ _ _ _ HIA.out HIB.out).mono ?_; rintro e w2 ⟨fb, rfl, hfb, hb2⟩
       have HMx := Lib.hid (HM.out.below hb2); clear HM; have HM := HMx; clear HMx; have HIAx := Lib.hid (HIA.out.below hb2); clear HIA; have HIA := HIAx; clear HIAx; have HIBx := Lib.hid (HIB.out.below hb2); clear HIB; have HIB := HIBx; clear HIBx; have HB0x := Lib.hid (HM.out.blk 0 rfl); clear HB0; have HB0 := HB0x; clear HB0x; have HB1x := Lib.hid (HM.out.blk 1 rfl); clear HB1; have HB1 := HB1x; clear HB1x
       have HFB := Lib.hid hfb
       clear hb2 hfb)
    | (refine Rg.store_fresh rfl 55 _ _ rfl #[.string ⟨#[]⟩, .string ⟨#[]⟩, .string ⟨#[]⟩, .string ⟨#[]⟩, .string ⟨#[]⟩, .string ⟨#[]⟩, .string ⟨#[]⟩, .string ⟨#[]⟩, .bool false, .bool false] _ 55 rfl rfl (by kernel_rfl) rfl (by simp [Value.oneCell']) ?_
       intro Y hY hbY
       have HMx := Lib.hid (HM.out.below hbY); clear HM; have HM := HMx; clear HMx; have HIAx := Lib.hid (HIA.out.below hbY); clear HIA; have HIA := HIAx; clear HIAx; have HIBx := Lib.hid (HIB.out.below hbY); clear HIB; have HIB := HIBx; clear HIBx; have HB0x := Lib.hid (HM.out.blk 0 rfl); clear HB0; have HB0 := HB0x; clear HB0x; have HB1x := Lib.hid (HM.out.blk 1 rfl); clear HB1; have HB1 := HB1x; clear HB1x
       have HFBx := Lib.hid (HFB.out.below hbY HFB.out.lt); clear HFB; have HFB := HFBx; clear HFBx
       have HC := Lib.hid hY
       clear hY hbY))
  have HCL := Lib.hid HC.out.lt
  generalize w2.heap.size = P at *
  go_upto_region 6 with (first
    | (refine wpList_load_row rfl 36 _ rfl _ rfl _ _ _ _ HB0.out Tryd.underlying36 rfl (by kernel_rfl) ?_; skip)
    | (refine wpList_load_row rfl 36 _ rfl _ rfl _ _ _ _ HB1.out Tryd.underlying36 rfl (by kernel_rfl) ?_; skip)
    | (go_at_call 25; refine (HRA.out _ HM.out.bel _ _ _ _ _ _ _ _ HIA.out HIB.out).mono ?_; rintro e w3 ⟨rfl, hb3⟩
       have HMx := Lib.hid (HM.out.below hb3); clear HM; have HM := HMx; clear HMx; have HIAx := Lib.hid (HIA.out.below hb3); clear HIA; have HIA := HIAx; clear HIAx; have HIBx := Lib.hid (HIB.out.below hb3); clear HIB; have HIB := HIBx; clear HIBx; have HB0x := Lib.hid (HM.out.blk 0 rfl); clear HB0; have HB0 := HB0x; clear HB0x; have HB1x := Lib.hid (HM.out.blk 1 rfl); clear HB1; have HB1 := HB1x; clear HB1x; have HCx := Lib.hid (HC.out.below hb3 HC.out.lt); clear HC; have HC := HCx; clear HCx; have HFBx := Lib.hid (HFB.out.below hb3 HFB.out.lt); clear HFB; have HFB := HFBx; clear HFBx
       clear hb3))
  have eS := eqS2
  have eB : ∀ w, (Op.equalIn 9999 53 (.agg #[.bool false, .bool false]) (.agg #[.bool false, .bool false])).run Tryd.prog w = .ok true w := fun w => eqB2 w false false false false
  go_wp2_with (first
    | (go_at_call 16; refine (HCD.out _ HM.out.bel _ HFB.out).mono ?_; rintro e w4 ⟨rfl, rfl⟩; skip)
    | (go_at_call 26; refine (HWH.out _ HM.out.bel _ HFB.out).mono ?_; rintro e w5 ⟨rfl, hb5⟩
       have HMx := Lib.hid (HM.out.below hb5); clear HM; have HM := HMx; clear HMx; have HIAx := Lib.hid (HIA.out.below hb5); clear HIA; have HIA := HIAx; clear HIAx; have HIBx := Lib.hid (HIB.out.below hb5); clear HIB; have HIB := HIBx; clear HIBx; have HB0x := Lib.hid (HM.out.blk 0 rfl); clear HB0; have HB0 := HB0x; clear HB0x; have HB1x := Lib.hid (HM.out.blk 1 rfl); clear HB1; have HB1 := HB1x; clear HB1x; have HCx := Lib.hid (HC.out.below hb5 HC.out.lt); clear HC; have HC := HCx; clear HCx; have HFBx := Lib.hid (HFB.out.below hb5 HFB.out.lt); clear HFB; have HFB := HFBx; clear HFBx
       clear hb5)
    | (refine wpList_load_row rfl 55 _ rfl _ rfl _ _ _ _ HC.out Tryd.underlying55 rfl (by kernel_rfl) ?_; skip)
    )
  go_ret
  exact ⟨rfl, HM.out.bel⟩
set_option maxRecDepth 20000 in
set_option maxHeartbeats 16000000 in
theorem agrees2 (w : World) (ca sa : Msg) (vu vs vn vb zu zs zn zb : Value) (hp : IsMsg w ca vu vs vn vb) (hq : IsMsg w sa zu zs zn zb) (hu : ∀ x ∈ ca.u, x < 4294967296) (hu2 : ∀ x ∈ sa.u, x < 4294967296) (a : Nat → Addr) (hE : Ei.ErrsAll w a) (hT : TabR w) (hG : Ei.ErrTy w) (hno : (okm (few ca) && okm (few sa)) = true) (out : List ByteArray) (hag : agr (few ca).n (few sa).n 8 [] = (out, none)) :
    Calls Tryd.prog 6 #[.agg (mC ca.kind vu vs vn vb), .agg (mC sa.kind zu zs zn zb)] w fun e w' => e = .returned (.bool true) ∧ Below w.heap.size w w' := by
  have HAW := Lib.hid (show ∀ W, Below w.heap.size w W → Calls Tryd.prog 10 #[] W fun e w' => e = .returned (.bool true) ∧ Below W.heap.size W w' from fun W hW => awake13 W a ((ErrsO.of hE).below hW) (hT.below hW))
  have HFA := Lib.hid (fun W (hW : Below w.heap.size w W) => (Few_any w W hW ca _ _ _ _ hp).mono fun _ _ h => few_slices h)
  have HFB := Lib.hid (fun W (hW : Below w.heap.size w W) => (Few_any w W hW sa _ _ _ _ hq).mono fun _ _ h => few_slices h)
  obtain ⟨k1, hk1⟩ : ∃ k, skp (few ca) (few sa) = k := ⟨_, rfl⟩
  obtain ⟨k2, hk2⟩ : ∃ k, skp (few sa) (few ca) = k := ⟨_, rfl⟩
  obtain ⟨o1, o2⟩ : okm (few ca) = true ∧ okm (few sa) = true := by simpa using hno
  have HS1 := Lib.hid (show ∀ W xu xs xn xb yu ys yn yb, IsMsg W (few ca) xu xs xn xb → IsMsg W (few sa) yu ys yn yb → Calls Tryd.prog 27 #[.agg #[.int .i64 ca.kind, xu, xs, xn, xb], .agg #[.int .i64 sa.kind, yu, ys, yn, yb]] W fun e w' => e = .returned (.bool k1) ∧ Below W.heap.size W w' from fun W xu xs xn xb yu ys yn yb h1 h2 => by rw [← hk1]; exact RefSkip_any W (few ca) (few sa) _ _ _ _ _ _ _ _ h1 h2 (by have := (okm_len o1).2.2.2; omega) (by have := (okm_len o1).2.2.1; omega) (by have := (okm_len o2).2.2.1; omega) ⟨few_names ca, few_names sa⟩)
  have HS2 := Lib.hid (show ∀ W xu xs xn xb yu ys yn yb, IsMsg W (few sa) xu xs xn xb → IsMsg W (few ca) yu ys yn yb → Calls Tryd.prog 27 #[.agg #[.int .i64 sa.kind, xu, xs, xn, xb], .agg #[.int .i64 ca.kind, yu, ys, yn, yb]] W fun e w' => e = .returned (.bool k2) ∧ Below W.heap.size W w' from fun W xu xs xn xb yu ys yn yb h1 h2 => by rw [← hk2]; exact RefSkip_any W (few sa) (few ca) _ _ _ _ _ _ _ _ h1 h2 (by have := (okm_len o2).2.2.2; omega) (by have := (okm_len o2).2.2.1; omega) (by have := (okm_len o1).2.2.1; omega) ⟨few_names sa, few_names ca⟩)
  have hlen : out.length = 8 := by have := agr_len (few ca).n (few sa).n 8 [] (by rw [hag]); rw [hag] at this; exact this
  obtain ⟨z0, z1, z2, z3, z4, z5, z6, z7, hout⟩ := eight out hlen
  have HCD := Lib.hid (show ∀ W, Below w.heap.size w W → Calls Tryd.prog 16 #[.nilIface] W fun e w' => e = .returned (.int .i64 0) ∧ W = w' from fun W hW => Ei.Code_any W a (hE.below hW) 0 (by decide))
  have HWH := Lib.hid (fun W => Ei.Where_nil W)
  have HAG := Lib.hid (show ∀ W, Below w.heap.size w W → ∀ xu xs xn xb yu ys yn yb, IsMsg W (few ca) xu xs xn xb → IsMsg W (few sa) yu ys yn yb → Calls Tryd.prog 24 #[.agg #[.int .i64 ca.kind, xu, xs, xn, xb], .agg #[.int .i64 sa.kind, yu, ys, yn, yb]] W fun e w' => e = .returned (.tuple #[.agg #[.string z0, .string z1, .string z2, .string z3, .string z4, .string z5, .string z6, .string z7, .bool k1, .bool k2], .nilIface]) ∧ Below W.heap.size W w' from fun W hW xu xs xn xb yu ys yn yb h1 h2 => (Agree_any W a ((ErrsO.of hE).below hW) (hT.below hW) (few ca) (few sa) xu xs xn xb yu ys yn yb h1 h2 (few_fit ca hu) (few_fit sa hu2)).mono fun e w' h => by refine ⟨?_, h.bel⟩; rw [h.yes hno _ hag, hk1, hk2, hout]; rfl)
  have HRA := Lib.hid (show ∀ W, Below w.heap.size w W → ∀ xu xs xn xb yu ys yn yb, IsMsg W (few ca) xu xs xn xb → IsMsg W (few sa) yu ys yn yb → Calls Tryd.prog 25 #[.agg #[.int .i64 ca.kind, xu, xs, xn, xb], .agg #[.int .i64 sa.kind, yu, ys, yn, yb]] W fun e w' => ∃ v, e = .returned (.tuple #[v, .int .i64 0, .string ⟨#[]⟩]) ∧ SL w' v (out.map Value.string) ∧ Below W.heap.size W w' from fun W hW xu xs xn xb yu ys yn yb h1 h2 => (RefAgree_any W (few ca) (few sa) xu xs xn xb yu ys yn yb h1 h2 (few_fit ca hu) (few_fit sa hu2)).mono fun e w' h => by obtain ⟨v, e1, e2⟩ := h.yes hno _ hag; exact ⟨v, e1, e2, h.bel⟩)
  have HOUT := Lib.hid hout; have HLN := Lib.hid hlen
  clear hout hlen hk1 hk2 o1 o2
  have HEA := Lib.hid hE
  have HGT := Lib.hid hG
  have HNO := Lib.hid hno
  have HFP := Lib.hid (few_fit ca hu)
  have HFQ := Lib.hid (few_fit sa hu2)
  have HAR := Lib.hid hag
  clear hag
  obtain ⟨pu, pnu, pcu, rfl, _⟩ := hp.u
  obtain ⟨ps, pns, pcs, rfl, _⟩ := hp.s
  obtain ⟨pvals, ⟨pn, pnn, pcn, rfl, pln, pR, ple, pmx⟩, pvl, pvn⟩ := hp.n
  obtain ⟨pb, pnb, pcb, rfl, plb, pRb, pbe, pbm⟩ := hp.b
  obtain ⟨qu, qnu, qcu, rfl, _⟩ := hq.u
  obtain ⟨qs, qns, qcs, rfl, _⟩ := hq.s
  obtain ⟨qvals, ⟨qn, qnn, qcn, rfl, qln, qR, qle, qmx⟩, qvl, qvn⟩ := hq.n
  obtain ⟨qb, qnb, qcb, rfl, qlb, qRb, qbe, qbm⟩ := hq.b
  clear hp hq hu hu2 hE hT hG hno pln qln pvl qvl ple qle pbe qbe pRb qRb plb qlb pmx qmx pbm qbm pR qR pvn qvn
  unfold mC at *
  have HX0 := Lib.hid (show Mem w [] ((w.alloc (.cells #[.int .i64 ca.kind, .slice pu pnu pcu, .slice ps pns pcs, .slice pn pnn pcn, .slice pb pnb pcb] 36)).alloc (.cells #[.int .i64 sa.kind, .slice qu qnu qcu, .slice qs qns qcs, .slice qn qnn qcn, .slice qb qnb qcb] 36)) [Sp.blk w.heap.size 36 #[.int .i64 ca.kind, .slice pu pnu pcu, .slice ps pns pcs, .slice pn pnn pcn, .slice pb pnb pcb], Sp.blk (w.heap.size + 1) 36 #[.int .i64 sa.kind, .slice qu qnu qcu, .slice qs qns qcs, .slice qn qnn qcn, .slice qb qnb qcb]] by
    have h := ((Mem.start w).alloc #[.int .i64 ca.kind, .slice pu pnu pcu, .slice ps pns pcs, .slice pn pnn pcn, .slice pb pnb pcb] 36).alloc #[.int .i64 sa.kind, .slice qu qnu qcu, .slice qs qns qcs, .slice qn qnn qcn, .slice qb qnb qcb] 36
    rw [World.size_alloc] at h
    exact h)
  go_enter Tryd.func6, Tryd.ntmps6
  go_upto_region 3 with (go_at_call 10; refine (HAW.out _ HX0.out.bel).mono ?_; rintro e w1 ⟨rfl, hb1⟩; skip; have HM := Lib.hid (HX0.out.below hb1); clear hb1)
  have HB0 := Lib.hid (HM.out.blk 0 rfl)
  have HB1 := Lib.hid (HM.out.blk 1 rfl)
  refine RT.start (RL.Aft w1) 4 2 (by kernel_rfl) (by decide) rfl (by kernel_rfl) (by kernel_rfl) (RL.Aft.drew (RL.Aft.refl w1)) ?_
  refine RT.takeV (i := 0) (v := .agg #[.int .i64 ca.kind, .slice pu pnu pcu, .slice ps pns pcs, .slice pn pnn pcn, .slice pb pnb pcb]) rfl (by kernel_rfl) (by kernel_rfl) (by kernel_rfl) (by decide) (fun _ _ _ h => h) (by rfl) (fun W hSW => RT.run_row 36 _ rfl _ rfl _ _ (HB0.out.below hSW HB0.out.lt) Tryd.underlying36 rfl (by kernel_rfl)) ?_
  (try simp only [Act.put, List.setIfInBounds_toArray, List.set_cons_zero, List.set_cons_succ])
  refine RT.takeV (i := 2) (v := .agg #[.int .i64 sa.kind, .slice qu qnu qcu, .slice qs qns qcs, .slice qn qnn qcn, .slice qb qnb qcb]) rfl (by kernel_rfl) (by kernel_rfl) (by kernel_rfl) (by decide) (fun _ _ _ h => h) (by rfl) (fun W hSW => RT.run_row 36 _ rfl _ rfl _ _ (HB1.out.below hSW HB1.out.lt) Tryd.underlying36 rfl (by kernel_rfl)) ?_
  (try simp only [Act.put, List.setIfInBounds_toArray, List.set_cons_zero, List.set_cons_succ])
  refine RT.stepK (i := 1) rfl (by kernel_rfl) (by decide) (by rfl) (fun wa hlwa hswa K hK => ?_)
  have hca := HFA.out wa (HM.out.bel.trans (Below.mono hswa HM.out.bel.size))
  go_simp
  refine hca.mono ?_
  rintro e wa2 ⟨xu, xnu, xcu, xs, xns, xcs, xn, xnn, xcn, xb, xnb, xcb, rfl, hIa, hba⟩
  have HIa := Lib.hid hIa
  have HLa := Lib.hid (show w1.heap.size ≤ wa.heap.size from Below.size hswa)
  refine hK.out _ _ (RL.Aft.lat hswa hba) ?_
  clear hK hca hIa hba
  (try simp only [Act.put, List.setIfInBounds_toArray, List.set_cons_zero, List.set_cons_succ])
  refine RT.stepK (i := 3) rfl (by kernel_rfl) (by decide) (by rfl) (fun wb hlwb hswb K hK => ?_)
  have hcb := HFB.out wb (HM.out.bel.trans (Below.mono hswb HM.out.bel.size))
  go_simp
  refine hcb.mono ?_
  rintro e wb2 ⟨yu, ynu, ycu, ys, yns, ycs, yn, ynn, ycn, yb, ynb, ycb, rfl, hIb, hbb⟩
  have HIb := Lib.hid hIb
  have HLb := Lib.hid (show w1.heap.size ≤ wb.heap.size from Below.size hswb)
  refine hK.out _ _ (RL.Aft.lat hswb hbb) ?_
  clear hK hcb hIb
  (try simp only [Act.put, List.setIfInBounds_toArray, List.set_cons_zero, List.set_cons_succ])
  refine RT.tail (by kernel_rfl) rfl rfl ?_
  intro wd hlwd hswd
  have HMD := Lib.hid (HM.out.below hswd)
  refine Cv.store_blk rfl 36 _ _ rfl w.heap.size #[.int .i64 ca.kind, .slice xu xnu xcu, .slice xs xns xcs, .slice xn xnn xcn, .slice xb xnb xcb] #[.int .i64 ca.kind, .slice pu pnu pcu, .slice ps pns pcs, .slice pn pnn pcn, .slice pb pnb pcb] 36 rfl rfl (HMD.out.blk 0 rfl) (by kernel_rfl) rfl (by simp [Value.oneCell']) ?_
  intro U hU hgU
  have hm := HMD.out.store 0 rfl hU hgU
  simp only [List.set_cons_zero, List.set_cons_succ] at hm
  refine Cv.store_blk rfl 36 _ _ rfl (w.heap.size + 1) #[.int .i64 sa.kind, .slice yu ynu ycu, .slice ys yns ycs, .slice yn ynn ycn, .slice yb ynb ycb] #[.int .i64 sa.kind, .slice qu qnu qcu, .slice qs qns qcs, .slice qn qnn qcn, .slice qb qnb qcb] 36 rfl rfl (hm.blk 1 rfl) (by kernel_rfl) rfl (by simp [Value.oneCell']) ?_
  intro V hV hgV
  have hm2 := hm.store 1 rfl hV hgV
  simp only [List.set_cons_zero, List.set_cons_succ] at hm2
  have HIA := Lib.hid (HIa.out V ((((((Out.refl _ _ _).below hlwb).below hbb).below hlwd).grown hgU (Nat.le_refl _) (by have := HB1.out.lt; have := HLa.out; omega)).grown hgV (Nat.le_succ _) (by have := HB1.out.lt; have := HLa.out; omega)))
  have HIB := Lib.hid (HIb.out V ((((Out.refl _ _ _).below hlwd).grown hgU (Nat.le_refl _) (by have := HB1.out.lt; have := HLb.out; omega)).grown hgV (Nat.le_succ _) (by have := HB1.out.lt; have := HLb.out; omega)))
  clear HM
  have HM := Lib.hid hm2
  clear hm hm2 hU hgU hV hgV hlwa hswa hlwb hswb hbb hlwd hswd HB0 HB1 HIa HIb HLa HLb HMD HX0
  have HB0 := Lib.hid (HM.out.blk 0 rfl)
  have HB1 := Lib.hid (HM.out.blk 1 rfl)
  go_upto_region 5 with (first
    | (refine wpList_load_row rfl 36 _ rfl _ rfl _ _ _ _ HB0.out Tryd.underlying36 rfl (by kernel_rfl) ?_; skip)
    | (refine wpList_load_row rfl 36 _ rfl _ rfl _ _ _ _ HB1.out Tryd.underlying36 rfl (by kernel_rfl) ?_; skip)
    | (go_at_call 24; refine (HAG.out _ HM.out.bel _ _ _ _ _ _ _ _ HIA.out HIB.out).mono ?_; rintro e w2 ⟨rfl, hb2⟩
       have HMx := Lib.hid (HM.out.below hb2); clear HM; have HM := HMx; clear HMx; have HIAx := Lib.hid (HIA.out.below hb2); clear HIA; have HIA := HIAx; clear HIAx; have HIBx := Lib.hid (HIB.out.below hb2); clear HIB; have HIB := HIBx; clear HIBx; have HB0x := Lib.hid (HM.out.blk 0 rfl); clear HB0; have HB0 := HB0x; clear HB0x; have HB1x := Lib.hid (HM.out.blk 1 rfl); clear HB1; have HB1 := HB1x; clear HB1x
       clear hb2)
    | (refine Rg.store_fresh rfl 55 _ _ rfl #[.string z0, .string z1, .string z2, .string z3, .string z4, .string z5, .string z6, .string z7, .bool k1, .bool k2] _ 55 rfl rfl (by kernel_rfl) rfl (by simp [Value.oneCell']) ?_
       intro Y hY hbY
       have HMx := Lib.hid (HM.out.below hbY); clear HM; have HM := HMx; clear HMx; have HIAx := Lib.hid (HIA.out.below hbY); clear HIA; have HIA := HIAx; clear HIAx; have HIBx := Lib.hid (HIB.out.below hbY); clear HIB; have HIB := HIBx; clear HIBx; have HB0x := Lib.hid (HM.out.blk 0 rfl); clear HB0; have HB0 := HB0x; clear HB0x; have HB1x := Lib.hid (HM.out.blk 1 rfl); clear HB1; have HB1 := HB1x; clear HB1x
       have HC := Lib.hid hY
       clear hY hbY))
  have HCL := Lib.hid HC.out.lt
  generalize w2.heap.size = P at *
  go_upto_region 6 with (first
    | (refine wpList_load_row rfl 36 _ rfl _ rfl _ _ _ _ HB0.out Tryd.underlying36 rfl (by kernel_rfl) ?_; skip)
    | (refine wpList_load_row rfl 36 _ rfl _ rfl _ _ _ _ HB1.out Tryd.underlying36 rfl (by kernel_rfl) ?_; skip)
    | (go_at_call 25; refine (HRA.out _ HM.out.bel _ _ _ _ _ _ _ _ HIA.out HIB.out).mono ?_; rintro e w3 ⟨v, rfl, hsl, hb3⟩
       have HMx := Lib.hid (HM.out.below hb3); clear HM; have HM := HMx; clear HMx; have HIAx := Lib.hid (HIA.out.below hb3); clear HIA; have HIA := HIAx; clear HIAx; have HIBx := Lib.hid (HIB.out.below hb3); clear HIB; have HIB := HIBx; clear HIBx; have HB0x := Lib.hid (HM.out.blk 0 rfl); clear HB0; have HB0 := HB0x; clear HB0x; have HB1x := Lib.hid (HM.out.blk 1 rfl); clear HB1; have HB1 := HB1x; clear HB1x; have HCx := Lib.hid (HC.out.below hb3 HC.out.lt); clear HC; have HC := HCx; clear HCx
       have HSL := Lib.hid hsl
       clear hb3 hsl))
  obtain ⟨vA, vn, vc, rfl, hvn, hvR, hvc, hvm⟩ := id HSL.out
  have y0 := HC.out.cell 0 (v := .string z0) rfl
  have y1 := HC.out.cell 1 (v := .string z1) rfl
  have y2 := HC.out.cell 2 (v := .string z2) rfl
  have y3 := HC.out.cell 3 (v := .string z3) rfl
  have y4 := HC.out.cell 4 (v := .string z4) rfl
  have y5 := HC.out.cell 5 (v := .string z5) rfl
  have y6 := HC.out.cell 6 (v := .string z6) rfl
  have y7 := HC.out.cell 7 (v := .string z7) rfl
  have y8 := HC.out.cell 8 (v := .bool k1) rfl
  have y9 := HC.out.cell 9 (v := .bool k2) rfl
  go_upto_region 11 with (first
    | (go_at_call 16; refine (HCD.out _ HM.out.bel).mono ?_; rintro e w4 ⟨rfl, rfl⟩; skip)
    | (go_at_call 26; refine (HWH.out _).mono ?_; rintro e w5 ⟨rfl, hb5⟩
       have HMx := Lib.hid (HM.out.below hb5); clear HM; have HM := HMx; clear HMx; have HIAx := Lib.hid (HIA.out.below hb5); clear HIA; have HIA := HIAx; clear HIAx; have HIBx := Lib.hid (HIB.out.below hb5); clear HIB; have HIB := HIBx; clear HIBx; have HB0x := Lib.hid (HM.out.blk 0 rfl); clear HB0; have HB0 := HB0x; clear HB0x; have HB1x := Lib.hid (HM.out.blk 1 rfl); clear HB1; have HB1 := HB1x; clear HB1x; have HCx := Lib.hid (HC.out.below hb5 HC.out.lt); clear HC; have HC := HCx; clear HCx; have HSLx := Lib.hid (HSL.out.below hb5); clear HSL; have HSL := HSLx; clear HSLx
       clear y0; have y0 := HC.out.cell 0 (v := .string z0) rfl
       clear y1; have y1 := HC.out.cell 1 (v := .string z1) rfl
       clear y2; have y2 := HC.out.cell 2 (v := .string z2) rfl
       clear y3; have y3 := HC.out.cell 3 (v := .string z3) rfl
       clear y4; have y4 := HC.out.cell 4 (v := .string z4) rfl
       clear y5; have y5 := HC.out.cell 5 (v := .string z5) rfl
       clear y6; have y6 := HC.out.cell 6 (v := .string z6) rfl
       clear y7; have y7 := HC.out.cell 7 (v := .string z7) rfl
       clear y8; have y8 := HC.out.cell 8 (v := .bool k1) rfl
       clear y9; have y9 := HC.out.cell 9 (v := .bool k2) rfl
       clear hb5))
  refine wp_nameO (fun Y2 hY2 => ?_)
  have hb6 : Below w5.heap.size w5 Y2 := by rw [hY2]; exact (Below.refl _ _).alloc (Nat.le_refl _) _
  have HN := Lib.hid (show Rg.Blk Y2 w5.heap.size 9 #[.string z0, .string z1, .string z2, .string z3, .string z4, .string z5, .string z6, .string z7] by rw [hY2]; exact Rg.Blk.new _ _ _)
  have HMx := Lib.hid (HM.out.below hb6); clear HM; have HM := HMx; clear HMx; have HIAx := Lib.hid (HIA.out.below hb6); clear HIA; have HIA := HIAx; clear HIAx; have HIBx := Lib.hid (HIB.out.below hb6); clear HIB; have HIB := HIBx; clear HIBx; have HB0x := Lib.hid (HM.out.blk 0 rfl); clear HB0; have HB0 := HB0x; clear HB0x; have HB1x := Lib.hid (HM.out.blk 1 rfl); clear HB1; have HB1 := HB1x; clear HB1x; have HCx := Lib.hid (HC.out.below hb6 HC.out.lt); clear HC; have HC := HCx; clear HCx; have HSLx := Lib.hid (HSL.out.below hb6); clear HSL; have HSL := HSLx; clear HSLx
  clear hb6 hY2 y0 y1 y2 y3 y4 y5 y6 y7 y8 y9
  generalize w5.heap.size = P2 at *
  obtain ⟨ZA, hZA⟩ : ∃ ZA : Array Value, #[.string z0, .string z1, .string z2, .string z3, .string z4, .string z5, .string z6, .string z7] = ZA := ⟨_, rfl⟩
  have HZA := Lib.hid (show ∀ k, k < 8 → ZA[k]? = some (.string (out.getD k e0)) ∧ (out.map Value.string)[k]? = some (.string (out.getD k e0)) from fun k hk => by
    rw [← hZA, HOUT.out]
    match k, hk with
    | 0, _ => exact ⟨rfl, rfl⟩
    | 1, _ => exact ⟨rfl, rfl⟩
    | 2, _ => exact ⟨rfl, rfl⟩
    | 3, _ => exact ⟨rfl, rfl⟩
    | 4, _ => exact ⟨rfl, rfl⟩
    | 5, _ => exact ⟨rfl, rfl⟩
    | 6, _ => exact ⟨rfl, rfl⟩
    | 7, _ => exact ⟨rfl, rfl⟩
    | k + 8, h => exact absurd h (by omega))
  rw [hZA] at HN
  clear hZA
  obtain ⟨_, _, _, h1, hvn, hvR, _⟩ := HSL.out
  injection h1 with e1 e2 e3
  subst e1 e2 e3
  obtain rfl : vn = 8 := by have := HLN.out; rw [List.length_map] at hvn; omega
  obtain ⟨vb, vo, rfl, _⟩ := hvR 0 _ (HZA.out 0 (by decide)).2
  have HVR := Lib.hid (show ∀ k, k < 8 → vb < Y2.heap.size ∧ Y2.cell? ⟨vb, vo + k, none⟩ = some (.string (out.getD k e0)) from fun k hk => by
    obtain ⟨b, o, e, hl, hc⟩ := hvR k _ (HZA.out k hk).2
    cases e
    exact ⟨hl, hc⟩)
  clear hvR hvn
  go_wp2_with fail
  go_loopw [71] (fun i wr => ∃ (k : Nat) (W : World), k ≤ 8 ∧ W = wr ∧ i = .int .i64 k ∧ Below Y2.heap.size Y2 W) (fun i _ => 9 - (intOf i).toNat)
  case atStart => exact ⟨0, _, by omega, rfl, rfl, Below.refl _ _⟩
  case round =>
    obtain ⟨k, W, hk, rfl, rfl, hbW⟩ := hrel
    have HBW := Lib.hid hbW
    clear hbW
    by_cases hk8 : k < 8
    · have hki : (k : Int) < 8 := by omega
      go_upto_region 14 with (fail)
      refine RL.start (RL.Aft W) (by kernel_rfl) (RL.Aft.drew (RL.Aft.refl W)) ?_
      refine' RL.takeV (i := 0) (v := _) rfl (by kernel_rfl) (by kernel_rfl) (by kernel_rfl) (fun _ _ _ h => h) (by rfl) ?hk29 ?_
      case hk29 => (intro W hSW; go_simp; try with_reducible rfl)
      (try simp only [Act.put, List.setIfInBounds_toArray, List.set_cons_zero, List.set_cons_succ])
      refine' RL.takeV (i := 1) (v := _) rfl (by kernel_rfl) (by kernel_rfl) (by kernel_rfl) (fun _ _ _ h => h) (by rfl) ?hk30 ?_
      case hk30 => (intro W hSW; go_simp; try with_reducible rfl)
      (try simp only [Act.put, List.setIfInBounds_toArray, List.set_cons_zero, List.set_cons_succ])
      refine' RL.takeV (i := 2) (v := _) rfl (by kernel_rfl) (by kernel_rfl) (by kernel_rfl) (fun _ _ _ h => h) (by rfl) ?hk31 ?_
      case hk31 => (intro W hSW; go_simp; try with_reducible rfl)
      (try simp only [Act.put, List.setIfInBounds_toArray, List.set_cons_zero, List.set_cons_succ])
      refine' RL.takeV (i := 3) (v := _) rfl (by kernel_rfl) (by kernel_rfl) (by kernel_rfl) (fun _ _ _ h => h) (by rfl) ?hk32 ?_
      case hk32 => (intro W hSW; have g : W.cell? ⟨P2, k, none⟩ = some (.string (out.getD k e0)) := ((HN.out.below HBW.out HN.out.lt).below hSW (HN.out.below HBW.out HN.out.lt).lt).cell k ((HZA.out k hk8).1); go_simp; try with_reducible rfl)
      (try simp only [Act.put, List.setIfInBounds_toArray, List.set_cons_zero, List.set_cons_succ])
      refine' RL.takeV (i := 4) (v := _) rfl (by kernel_rfl) (by kernel_rfl) (by kernel_rfl) (fun _ _ _ h => h) (by rfl) ?hk33 ?_
      case hk33 => (intro W hSW; go_simp; try with_reducible rfl)
      (try simp only [Act.put, List.setIfInBounds_toArray, List.set_cons_zero, List.set_cons_succ])
      refine' RL.takeV (i := 5) (v := _) rfl (by kernel_rfl) (by kernel_rfl) (by kernel_rfl) (fun _ _ _ h => h) (by rfl) ?hk34 ?_
      case hk34 => (intro W hSW; go_simp; try with_reducible rfl)
      (try simp only [Act.put, List.setIfInBounds_toArray, List.set_cons_zero, List.set_cons_succ])
      refine' RL.takeV (i := 6) (v := _) rfl (by kernel_rfl) (by kernel_rfl) (by kernel_rfl) (fun _ _ _ h => h) (by rfl) ?hk35 ?_
      case hk35 => (intro W hSW; go_simp; try with_reducible rfl)
      (try simp only [Act.put, List.setIfInBounds_toArray, List.set_cons_zero, List.set_cons_succ])
      refine' RL.takeV (i := 7) (v := _) rfl (by kernel_rfl) (by kernel_rfl) (by kernel_rfl) (fun _ _ _ h => h) (by rfl) ?hk36 ?_
      case hk36 => (intro W hSW; have g : W.cell? ⟨vb, vo + k, none⟩ = some (.string (out.getD k e0)) := by { have h := HVR.out k hk8; have hb := HBW.out.trans (Below.mono hSW HBW.out.size); exact (hb.cell h.1).trans h.2 }; go_simp; try with_reducible rfl)
      (try simp only [Act.put, List.setIfInBounds_toArray, List.set_cons_zero, List.set_cons_succ])
      refine' RL.takeV (i := 8) (v := _) rfl (by kernel_rfl) (by kernel_rfl) (by kernel_rfl) (fun _ _ _ h => h) (by rfl) ?hk37 ?_
      case hk37 => (intro W hSW; go_simp; try with_reducible rfl)
      (try simp only [Act.put, List.setIfInBounds_toArray, List.set_cons_zero, List.set_cons_succ])
      refine RL.done (by kernel_rfl) (fun wd hlwd hswd => ?_)
      have HBD := Lib.hid (HBW.out.trans (Below.mono hswd HBW.out.size))
      clear hlwd hswd
      go_wp2_with fail
      go_roundw
      case rel =>
        first
          | exact ⟨k + 1, _, by omega, rfl, by simp, HBD.out⟩
          | ((repeat apply Exists.intro); refine ⟨?_, rfl⟩; exact ⟨k + 1, _, by omega, rfl, by simp, HBD.out⟩)
      case measure => (first | (simp [intOf]; done) | (simp [intOf]; omega))
    · obtain rfl : k = 8 := by omega
      go_upto_region 17 with (fail)
      have HIA9 := Lib.hid (HIA.out.below HBW.out); have HIB9 := Lib.hid (HIB.out.below HBW.out)
      have HM9 := Lib.hid (HM.out.below HBW.out)
      have HX9 := Lib.hid (HM9.out.blk 0 rfl); have HY9 := Lib.hid (HM9.out.blk 1 rfl)
      have HC9 := Lib.hid (HC.out.below HBW.out HC.out.lt)
      have eB : ∀ w, (Op.equalIn 10000 53 (.agg #[.bool k1, .bool k2]) (.agg #[.bool k1, .bool k2])).run Tryd.prog w = .ok true w := fun w => by rw [eqB3]; simp
      refine RL.start (RL.Aft W) (by kernel_rfl) (RL.Aft.drew (RL.Aft.refl W)) ?_
      refine' RL.takeV (i := 0) (v := _) rfl (by kernel_rfl) (by kernel_rfl) (by kernel_rfl) (fun _ _ _ h => h) (by rfl) ?hk38 ?_
      case hk38 => (intro W hSW; go_simp; try with_reducible rfl)
      (try simp only [Act.put, List.setIfInBounds_toArray, List.set_cons_zero, List.set_cons_succ])
      refine' RL.takeV (i := 1) (v := _) rfl (by kernel_rfl) (by kernel_rfl) (by kernel_rfl) (fun _ _ _ h => h) (by rfl) ?hk39 ?_
      case hk39 => (intro W hSW; have y8 := (HC9.out.below hSW HC9.out.lt).cell 8 (v := .bool k1) rfl; have y9 := (HC9.out.below hSW HC9.out.lt).cell 9 (v := .bool k2) rfl; go_simp; try with_reducible rfl)
      (try simp only [Act.put, List.setIfInBounds_toArray, List.set_cons_zero, List.set_cons_succ])
      refine RL.takeV (i := 2) (v := .agg #[.int .i64 ca.kind, .slice xu xnu xcu, .slice xs xns xcs, .slice xn xnn xcn, .slice xb xnb xcb]) rfl (by kernel_rfl) (by kernel_rfl) (by kernel_rfl) (fun _ _ _ h => h) (by rfl) (fun W hSW => RT.run_row 36 _ rfl _ rfl _ _ (HX9.out.below hSW HX9.out.lt) Tryd.underlying36 rfl (by kernel_rfl)) ?_
      (try simp only [Act.put, List.setIfInBounds_toArray, List.set_cons_zero, List.set_cons_succ])
      refine RL.takeV (i := 3) (v := .agg #[.int .i64 sa.kind, .slice yu ynu ycu, .slice ys yns ycs, .slice yn ynn ycn, .slice yb ynb ycb]) rfl (by kernel_rfl) (by kernel_rfl) (by kernel_rfl) (fun _ _ _ h => h) (by rfl) (fun W hSW => RT.run_row 36 _ rfl _ rfl _ _ (HY9.out.below hSW HY9.out.lt) Tryd.underlying36 rfl (by kernel_rfl)) ?_
      (try simp only [Act.put, List.setIfInBounds_toArray, List.set_cons_zero, List.set_cons_succ])
      refine' RL.takeC (i := 4) (v := .bool k1) 27 #[.agg #[.int .i64 ca.kind, .slice xu xnu xcu, .slice xs xns xcs, .slice xn xnn xcn, .slice xb xnb xcb], .agg #[.int .i64 sa.kind, .slice yu ynu ycu, .slice ys yns ycs, .slice yn ynn ycn, .slice yb ynb ycb]] rfl (by kernel_rfl) (by kernel_rfl) (by kernel_rfl) (fun _ _ _ h => h) (by rfl) ?hk40 ?hc40 ?_
      case hk40 => (intro W; go_simp; try with_reducible rfl)
      case hc40 => (intro W hSW; exact (HS1.out W _ _ _ _ _ _ _ _ (HIA9.out.below hSW) (HIB9.out.below hSW)).mono fun e w' h => ⟨h.1, h.2, RL.Aft.lat hSW h.2⟩)
      (try simp only [Act.put, List.setIfInBounds_toArray, List.set_cons_zero, List.set_cons_succ])
      refine RL.takeV (i := 5) (v := .agg #[.int .i64 sa.kind, .slice yu ynu ycu, .slice ys yns ycs, .slice yn ynn ycn, .slice yb ynb ycb]) rfl (by kernel_rfl) (by kernel_rfl) (by kernel_rfl) (fun _ _ _ h => h) (by rfl) (fun W hSW => RT.run_row 36 _ rfl _ rfl _ _ (HY9.out.below hSW HY9.out.lt) Tryd.underlying36 rfl (by kernel_rfl)) ?_
      (try simp only [Act.put, List.setIfInBounds_toArray, List.set_cons_zero, List.set_cons_succ])
      refine RL.takeV (i := 6) (v := .agg #[.int .i64 ca.kind, .slice xu xnu xcu, .slice xs xns xcs, .slice xn xnn xcn, .slice xb xnb xcb]) rfl (by kernel_rfl) (by kernel_rfl) (by kernel_rfl) (fun _ _ _ h => h) (by rfl) (fun W hSW => RT.run_row 36 _ rfl _ rfl _ _ (HX9.out.below hSW HX9.out.lt) Tryd.underlying36 rfl (by kernel_rfl)) ?_
      (try simp only [Act.put, List.setIfInBounds_toArray, List.set_cons_zero, List.set_cons_succ])
      refine' RL.takeC (i := 7) (v := .bool k2) 27 #[.agg #[.int .i64 sa.kind, .slice yu ynu ycu, .slice ys yns ycs, .slice yn ynn ycn, .slice yb ynb ycb], .agg #[.int .i64 ca.kind, .slice xu xnu xcu, .slice xs xns xcs, .slice xn xnn xcn, .slice xb xnb xcb]] rfl (by kernel_rfl) (by kernel_rfl) (by kernel_rfl) (fun _ _ _ h => h) (by rfl) ?hk41 ?hc41 ?_
      case hk41 => (intro W; go_simp; try with_reducible rfl)
      case hc41 => (intro W hSW; exact (HS2.out W _ _ _ _ _ _ _ _ (HIB9.out.below hSW) (HIA9.out.below hSW)).mono fun e w' h => ⟨h.1, h.2, RL.Aft.lat hSW h.2⟩)
      (try simp only [Act.put, List.setIfInBounds_toArray, List.set_cons_zero, List.set_cons_succ])
      refine' RL.takeV (i := 8) (v := _) rfl (by kernel_rfl) (by kernel_rfl) (by kernel_rfl) (fun _ _ _ h => h) (by rfl) ?hk42 ?_
      case hk42 => (intro W hSW; go_simp; try with_reducible rfl)
      (try simp only [Act.put, List.setIfInBounds_toArray, List.set_cons_zero, List.set_cons_succ])
      refine' RL.takeV (i := 9) (v := _) rfl (by kernel_rfl) (by kernel_rfl) (by kernel_rfl) (fun _ _ _ h => h) (by rfl) ?hk43 ?_
      case hk43 => (intro W hSW; go_simp; try with_reducible rfl)
      (try simp only [Act.put, List.setIfInBounds_toArray, List.set_cons_zero, List.set_cons_succ])
      refine' RL.takeV (i := 10) (v := _) rfl (by kernel_rfl) (by kernel_rfl) (by kernel_rfl) (fun _ _ _ h => h) (by rfl) ?hk44 ?_
      case hk44 => (intro W hSW; go_simp; try with_reducible rfl)
      (try simp only [Act.put, List.setIfInBounds_toArray, List.set_cons_zero, List.set_cons_succ])
      refine RL.done (by kernel_rfl) (fun wz hlwz hswz => ?_)
      have HBZ := Lib.hid (HM9.out.bel.trans (Below.mono hswz HM9.out.bel.size))
      clear hlwz hswz
      go_wp2_with fail
      go_ret
      exact ⟨rfl, HBZ.out⟩
theorem law_OfferAgrees (w : World) (ca sa : Msg) (vu vs vn vb zu zs zn zb : Value) (hp : IsMsg w ca vu vs vn vb) (hq : IsMsg w sa zu zs zn zb) (hu : ∀ x ∈ ca.u, x < 4294967296) (hu2 : ∀ x ∈ sa.u, x < 4294967296) (a : Nat → Addr) (hE : Ei.ErrsAll w a) (hT : TabR w) (hG : Ei.ErrTy w) :
    Calls Tryd.prog 6 #[.agg (mC ca.kind vu vs vn vb), .agg (mC sa.kind zu zs zn zb)] w fun e w' => e = .returned (.bool true) ∧ Below w.heap.size w w' := by
  cases ho : (okm (few ca) && okm (few sa)) with
  | false => exact agrees0 w ca sa vu vs vn vb zu zs zn zb hp hq hu hu2 a hE hT hG ho
  | true =>
    obtain ⟨⟨out, r⟩, h⟩ : ∃ R, agr (few ca).n (few sa).n 8 [] = R := ⟨_, rfl⟩
    cases r with
    | none => exact agrees2 w ca sa vu vs vn vb zu zs zn zb hp hq hu hu2 a hE hT hG ho out h
    | some i => exact agrees1 w ca sa vu vs vn vb zu zs zn zb hp hq hu hu2 a hE hT hG ho out i h
theorem law_OfferAgrees2 (w : World) (ca : Msg) (vu vs vn vb : Value) (hp : IsMsg w ca vu vs vn vb) (hu : ∀ x ∈ ca.u, x < 4294967296) (sa : Msg) (zu zs zn zb : Value) (hq : IsMsg w sa zu zs zn zb) (hu2 : ∀ x ∈ sa.u, x < 4294967296) (a : Nat → Addr) (hE : Ei.ErrsAll w a) (hT : TabR w) (hG : Ei.ErrTy w) :
    Calls Tryd.prog 6 #[.agg (mC ca.kind vu vs vn vb), .agg (mC sa.kind zu zs zn zb)] w fun e w' => e = .returned (.bool true) ∧ Below w.heap.size w w' := law_OfferAgrees w ca sa vu vs vn vb zu zs zn zb hp hq hu hu2 a hE hT hG
end Go.Proofs.YtjfikbnfabdkoaaDoor.Of
