/- offer.Agree. -/
import Derived.Test.YtjfikbnfabdkoaaDoorOff4
import Derived.Test.YtjfikbnfabdkoaaDoorMsgChkC
set_option linter.unusedVariables false
set_option linter.unusedSimpArgs false
namespace Go.Proofs.YtjfikbnfabdkoaaDoor.Of
open Go.RowKit Go.Proofs.YtjfikbnfabdkoaaDoor.Wi Go.Proofs.YtjfikbnfabdkoaaDoor.Ow Go.Proofs.YtjfikbnfabdkoaaDoor.Be Go.Proofs.YtjfikbnfabdkoaaDoor.Mg Go.Proofs.YtjfikbnfabdkoaaDoor.Sp
theorem choC_zero : choC [] false false = #[.string ⟨#[]⟩, .string ⟨#[]⟩, .string ⟨#[]⟩, .string ⟨#[]⟩, .string ⟨#[]⟩, .string ⟨#[]⟩, .string ⟨#[]⟩, .string ⟨#[]⟩, .bool false, .bool false] := rfl
theorem isMsgOf {w : World} {m : Msg} {vu vs vn vb : Value} (h : IsMsg w m vu vs vn vb) : IsMsg w m vu vs vn vb := h
def NoC (out : List ByteArray) (k : Nat) : Prop := ¬ ((k = 4 ∨ k = 5) ∧ out.getD (k - 2) e0 = cipherB)
def AgR (ca sa : Msg) (R : List ByteArray × Option Nat) (out : List ByteArray) (k : Nat) : Prop := out.length = k ∧ agr ca.n sa.n (8 - k) out = R
theorem AgR.imp {ca sa : Msg} {R : List ByteArray × Option Nat} {out : List ByteArray} {k : Nat} (h : AgR ca sa R out k) (hk : k = 4 ∨ k = 5) (hy : out.getD (k - 2) e0 = cipherB) : AgR ca sa R (out ++ [impliedB]) (k + 1) := by
  obtain ⟨h1, h2⟩ := h
  refine ⟨by simp [h1], ?_⟩
  rw [show 8 - k = (8 - (k + 1)) + 1 by omega] at h2
  unfold agr at h2
  rw [if_pos ⟨by rw [h1]; exact hk, by rw [h1]; exact hy⟩] at h2
  exact h2
theorem AgR.some {ca sa : Msg} {R : List ByteArray × Option Nat} {out : List ByteArray} {k : Nat} (h : AgR ca sa R out k) (hk8 : k < 8) (hn : NoC out k) {x : ByteArray} (hx : chooseL (ca.n.getD k []) (sa.n.getD k []) = some x) : AgR ca sa R (out ++ [x]) (k + 1) := by
  obtain ⟨h1, h2⟩ := h
  refine ⟨by simp [h1], ?_⟩
  rw [show 8 - k = (8 - (k + 1)) + 1 by omega] at h2
  unfold agr at h2
  rw [if_neg (by rw [h1]; exact hn), h1, hx] at h2
  exact h2
theorem AgR.none {ca sa : Msg} {R : List ByteArray × Option Nat} {out : List ByteArray} {k : Nat} (h : AgR ca sa R out k) (hk8 : k < 8) (hn : NoC out k) (hx : chooseL (ca.n.getD k []) (sa.n.getD k []) = none) : R = (out, .some k) := by
  obtain ⟨h1, h2⟩ := h
  rw [show 8 - k = (8 - (k + 1)) + 1 by omega] at h2
  unfold agr at h2
  rw [if_neg (by rw [h1]; exact hn), h1, hx] at h2
  exact h2.symm
theorem AgR.done {ca sa : Msg} {R : List ByteArray × Option Nat} {out : List ByteArray} (h : AgR ca sa R out 8) : R = (out, Option.none) := h.2.symm
/-- the k-th of the two messages -/
def Nth (wr : World) (P : Nat) (ca sa : Msg) (k : Nat) (m : Msg) (mk : Int) (xu xs xn xb : Value) : Prop :=
  IsMsg wr m xu xs xn xb ∧ m.kind = mk ∧ Fit m ∧ (k = 0 ∧ m = ca ∨ k = 1 ∧ m = sa) ∧ ∀ j v, #[Value.int .i64 mk, xu, xs, xn, xb][j]? = some v → wr.cell? ⟨P, k * 5 + j, none⟩ = some v
set_option maxRecDepth 20000 in
set_option maxHeartbeats 16000000 in
theorem Agree_any (w : World) (a : Nat → Addr) (hE : ErrsO w a) (hT : TabR w) (ca sa : Msg) (vu vs vn vb xu xs xn xb : Value) (hp : IsMsg w ca vu vs vn vb) (hq : IsMsg w sa xu xs xn xb) (fp : Fit ca) (fq : Fit sa) :
    Calls Tryd.prog 24 #[.agg (mC ca.kind vu vs vn vb), .agg (mC sa.kind xu xs xn xb)] w (AgrPost a ca sa w) := by
  have HPM := Lib.hid hp
  have HQM := Lib.hid hq
  obtain ⟨pu, pnu, pcu, rfl, _⟩ := hp.u
  obtain ⟨ps, pns, pcs, rfl, _⟩ := hp.s
  obtain ⟨pvals, ⟨pn, pnn, pcn, rfl, pln, pR, ple, pmx⟩, pvl, pvn⟩ := hp.n
  obtain ⟨pb, pnb, pcb, rfl, plb, pRb, pbe, pbm⟩ := hp.b
  obtain ⟨qu, qnu, qcu, rfl, _⟩ := hq.u
  obtain ⟨qs, qns, qcs, rfl, _⟩ := hq.s
  obtain ⟨qvals, ⟨qn, qnn, qcn, rfl, qln, qR, qle, qmx⟩, qvl, qvn⟩ := hq.n
  obtain ⟨qb, qnb, qcb, rfl, qlb, qRb, qbe, qbm⟩ := hq.b
  have HE := Lib.hid hE
  have HFP := Lib.hid fp
  have HFQ := Lib.hid fq
  have HPV := Lib.hid pvn
  have HQV := Lib.hid qvn
  have HPR := Lib.hid pR
  have HQR := Lib.hid qR
  have HPL := Lib.hid (pvl.symm.trans pln)
  have HQL := Lib.hid (qvl.symm.trans qln)
  obtain ⟨pk, hpk⟩ : ∃ pk, ca.kind = pk := ⟨_, rfl⟩
  obtain ⟨qk, hqk⟩ : ∃ qk, sa.kind = qk := ⟨_, rfl⟩
  rw [hpk, hqk]
  have HPK := Lib.hid hpk
  have HQK := Lib.hid hqk
  have HCK := Lib.hid (show ∀ W, Below w.heap.size w W → ∀ m mk xu xs xn xb, m.kind = mk → Fit m → IsMsg W m xu xs xn xb → Calls Tryd.prog 28 #[.agg #[.int .i64 mk, xu, xs, xn, xb]] W fun e w' => e = .returned (Ei.evA a (checkC m)) ∧ Below W.heap.size W w' from fun W hW m mk xu xs xn xb hmk hf h => by
    have := Check_anyC W a (hE.below hW) (hT.below hW) m xu xs xn xb h hf
    rw [hmk] at this
    exact this)
  unfold mC
  clear hp hq hE hT fp fq hpk hqk pvn qvn pR qR pvl qvl pln qln ple qle pbe qbe pRb qRb plb qlb pmx qmx pbm qbm
  go_enter Tryd.func24, Tryd.ntmps24
  go_upto_region 1 with (fail)
  refine wp_nameO (fun X hX => ?_)
  have HX := Lib.hid (show Mem w [] X [Sp.blk w.heap.size 32 #[.int .i64 pk, .slice pu pnu pcu, .slice ps pns pcs, .slice pn pnn pcn, .slice pb pnb pcb], Sp.blk (w.heap.size + 1) 32 #[.int .i64 qk, .slice qu qnu qcu, .slice qs qns qcs, .slice qn qnn qcn, .slice qb qnb qcb], Sp.blk (w.heap.size + 1 + 1) 55 (choC [] false false)] by
    rw [hX, choC_zero]
    have h := (((Mem.start w).alloc #[.int .i64 pk, .slice pu pnu pcu, .slice ps pns pcs, .slice pn pnn pcn, .slice pb pnb pcb] 32).alloc #[.int .i64 qk, .slice qu qnu qcu, .slice qs qns qcs, .slice qn qnn qcn, .slice qb qnb qcb] 32).alloc #[.string ⟨#[]⟩, .string ⟨#[]⟩, .string ⟨#[]⟩, .string ⟨#[]⟩, .string ⟨#[]⟩, .string ⟨#[]⟩, .string ⟨#[]⟩, .string ⟨#[]⟩, .bool false, .bool false] 55
    simp only [World.size_alloc, List.cons_append, List.nil_append] at h
    exact h)
  clear hX
  have HB0 := Lib.hid (HX.out.blk 0 rfl)
  have HB1 := Lib.hid (HX.out.blk 1 rfl)
  go_wp2_with (first
    | (refine wpList_load_row rfl 32 _ rfl _ rfl _ _ _ _ HB0.out Tryd.underlying32 rfl (by kernel_rfl) ?_; skip)
    | (refine wpList_load_row rfl 32 _ rfl _ rfl _ _ _ _ HB1.out Tryd.underlying32 rfl (by kernel_rfl) ?_; skip))
  have HM0 := Lib.hid (show Mem w [] (X.alloc (.cells #[.int .i64 pk, .slice pu pnu pcu, .slice ps pns pcs, .slice pn pnn pcn, .slice pb pnb pcb, .int .i64 qk, .slice qu qnu qcu, .slice qs qns qcs, .slice qn qnn qcn, .slice qb qnb qcb] 32)) [Sp.blk w.heap.size 32 #[.int .i64 pk, .slice pu pnu pcu, .slice ps pns pcs, .slice pn pnn pcn, .slice pb pnb pcb], Sp.blk (w.heap.size + 1) 32 #[.int .i64 qk, .slice qu qnu qcu, .slice qs qns qcs, .slice qn qnn qcn, .slice qb qnb qcb], Sp.blk (w.heap.size + 1 + 1) 55 (choC [] false false), Sp.blk X.heap.size 32 #[.int .i64 pk, .slice pu pnu pcu, .slice ps pns pcs, .slice pn pnn pcn, .slice pb pnb pcb, .int .i64 qk, .slice qu qnu qcu, .slice qs qns qcs, .slice qn qnn qcn, .slice qb qnb qcb]] from HX.out.alloc #[.int .i64 pk, .slice pu pnu pcu, .slice ps pns pcs, .slice pn pnn pcn, .slice pb pnb pcb, .int .i64 qk, .slice qu qnu qcu, .slice qs qns qcs, .slice qn qnn qcn, .slice qb qnb qcb] 32)
  generalize X.heap.size = P at *
  generalize X.alloc (.cells #[.int .i64 pk, .slice pu pnu pcu, .slice ps pns pcs, .slice pn pnn pcn, .slice pb pnb pcb, .int .i64 qk, .slice qu qnu qcu, .slice qs qns qcs, .slice qn qnn qcn, .slice qb qnb qcb] 32) = Y at *
  clear HX HB0 HB1
  go_loopw [18] (fun i wr => ∃ (k : Nat) (W : World), k ≤ 2 ∧ W = wr ∧ i = .int .i64 k ∧ (0 < k → okm ca = true) ∧ (1 < k → okm sa = true) ∧ Mem w [] W [Sp.blk w.heap.size 32 #[.int .i64 pk, .slice pu pnu pcu, .slice ps pns pcs, .slice pn pnn pcn, .slice pb pnb pcb], Sp.blk (w.heap.size + 1) 32 #[.int .i64 qk, .slice qu qnu qcu, .slice qs qns qcs, .slice qn qnn qcn, .slice qb qnb qcb], Sp.blk (w.heap.size + 1 + 1) 55 (choC [] false false), Sp.blk P 32 #[.int .i64 pk, .slice pu pnu pcu, .slice ps pns pcs, .slice pn pnn pcn, .slice pb pnb pcb, .int .i64 qk, .slice qu qnu qcu, .slice qs qns qcs, .slice qn qnn qcn, .slice qb qnb qcb]]) (fun i _ => 3 - (intOf i).toNat)
  case atStart => exact ⟨0, _, by omega, rfl, rfl, fun h => absurd h (by omega), fun h => absurd h (by omega), HM0.out⟩
  case round =>
    obtain ⟨k, W, hk, rfl, rfl, hk0, hk1, hm⟩ := hrel
    have HM := Lib.hid hm
    have HK0 := Lib.hid hk0
    have HK1 := Lib.hid hk1
    clear hm hk0 hk1 HM0
    by_cases hk2 : k < 2
    · have hki : (k : Int) < 2 := by omega
      obtain ⟨m, mk, mu, nmu, cmu, ms, nms, cms, mn, nmn, cmn, mb, nmb, cmb, hnth⟩ : ∃ (m : Msg) (mk : Int) (mu : Option Addr) (nmu cmu : Nat) (ms : Option Addr) (nms cms : Nat) (mn : Option Addr) (nmn cmn : Nat) (mb : Option Addr) (nmb cmb : Nat), Nth W P ca sa k m mk (.slice mu nmu cmu) (.slice ms nms cms) (.slice mn nmn cmn) (.slice mb nmb cmb) := by
        have hb := HM.out.blk 3 rfl
        have hc : k = 0 ∨ k = 1 := by omega
        rcases hc with rfl | rfl
        · refine ⟨ca, pk, pu, pnu, pcu, ps, pns, pcs, pn, pnn, pcn, pb, pnb, pcb, HPM.out.below HM.out.bel, HPK.out, HFP.out, .inl ⟨rfl, rfl⟩, fun j v hj => hb.cell (0 * 5 + j) ?_⟩
          match j, hj with
          | 0, hj => exact hj
          | 1, hj => exact hj
          | 2, hj => exact hj
          | 3, hj => exact hj
          | 4, hj => exact hj
          | j + 5, hj => simp at hj
        · refine ⟨sa, qk, qu, qnu, qcu, qs, qns, qcs, qn, qnn, qcn, qb, qnb, qcb, HQM.out.below HM.out.bel, HQK.out, HFQ.out, .inr ⟨rfl, rfl⟩, fun j v hj => hb.cell (1 * 5 + j) ?_⟩
          match j, hj with
          | 0, hj => exact hj
          | 1, hj => exact hj
          | 2, hj => exact hj
          | 3, hj => exact hj
          | 4, hj => exact hj
          | j + 5, hj => simp at hj
      have HNT := Lib.hid hnth
      have k0 := hnth.2.2.2.2 0 (.int .i64 mk) rfl
      have k1 := hnth.2.2.2.2 1 (.slice mu nmu cmu) rfl
      have k2 := hnth.2.2.2.2 2 (.slice ms nms cms) rfl
      have k3 := hnth.2.2.2.2 3 (.slice mn nmn cmn) rfl
      have k4 := hnth.2.2.2.2 4 (.slice mb nmb cmb) rfl
      rw [Nat.add_zero] at k0
      have HOK := Lib.hid (show okm m = true → (0 < k + 1 → okm ca = true) ∧ (1 < k + 1 → okm sa = true) from fun h => by
        rcases hnth.2.2.2.1 with ⟨rfl, rfl⟩ | ⟨rfl, rfl⟩
        · exact ⟨fun _ => h, fun h2 => absurd h2 (by omega)⟩
        · exact ⟨fun _ => HK0.out (by omega), fun _ => h⟩)
      have HNO := Lib.hid (show okm m = false → (okm ca && okm sa) = false from fun h => by
        rcases hnth.2.2.2.1 with ⟨_, rfl⟩ | ⟨_, rfl⟩
        · rw [h]; rfl
        · rw [h]; exact Bool.and_false _)
      have HCM := Lib.hid (fun W2 (hb : Below W.heap.size W W2) => HCK.out W2 (HM.out.bel.trans (hb.mono HM.out.bel.size)) m mk _ _ _ _ hnth.2.1 hnth.2.2.1 (hnth.1.below hb))
      have hmk := hnth.2.1
      obtain ⟨c, hc⟩ : ∃ c, checkC m = c := ⟨_, rfl⟩
      rw [hc] at HCM
      have HMK := Lib.hid hmk
      have HC := Lib.hid hc
      clear hnth hmk hc
      have HBZ := Lib.hid (show Below W.heap.size W (W.alloc (.cells #[.int .i64 mk, .slice mu nmu cmu, .slice ms nms cms, .slice mn nmn cmn, .slice mb nmb cmb] 32)) from (Below.refl _ _).alloc (Nat.le_refl _) _)
      have HMZ := Lib.hid (HM.out.below HBZ.out)
      by_cases hkd : mk = 20
      · by_cases hcz : c = 0
        · subst hkd
          subst hcz
          rw [Ei.evA_zero] at HCM
          have HN := Lib.hid (HOK.out (by unfold okm; rw [HMK.out, HC.out]; rfl))
          have kz : ((20 : Int) != 20) = false := rfl
          go_wp2_with (first
            | (go_at_call 28; refine (HCM.out _ HBZ.out).mono ?_; rintro e w2 ⟨rfl, hb⟩; skip; have HMZx := Lib.hid (HMZ.out.below hb); clear HMZ; have HMZ := HMZx; clear HMZx; clear hb))
          go_roundw
          case rel =>
            first
              | exact ⟨k + 1, _, by omega, rfl, by go_num, HN.out.1, HN.out.2, HMZ.out⟩
              | ((repeat apply Exists.intro); refine ⟨?_, rfl⟩; exact ⟨k + 1, _, by omega, rfl, by go_num, HN.out.1, HN.out.2, HMZ.out⟩)
          case measure => (first | (simp [intOf]; done) | (simp [intOf]; omega))
        · subst hkd
          have HKB := Lib.hid (show okm m = false by unfold okm; rw [HC.out]; simp [hcz])
          have kz : ((20 : Int) != 20) = false := rfl
          rw [Ei.evA_pos a hcz] at HCM
          go_upto_region 5 with (first
            | (go_at_call 28; refine (HCM.out _ HBZ.out).mono ?_; rintro e w2 ⟨rfl, hb⟩; skip; have HMZx := Lib.hid (HMZ.out.below hb); clear HMZ; have HMZ := HMZx; clear HMZx; clear hb))
          have HEK := Lib.hid (show ∀ V, Below w2.heap.size w2 V → V.cell? ⟨19, 0, none⟩ = some (.iface 189 (.pointer (some (a 20)))) from fun V hV => (HE.out.below (HMZ.out.bel.trans (hV.mono HMZ.out.bel.size))).cell 19 (by decide))
          have HGE := Lib.hid (World.block_lt_of_cell? w _ (HE.out.cell 19 (by decide)))
          refine RL.start (fun V => V.cell? ⟨19, 0, none⟩ = some (.iface 189 (.pointer (some (a 20))))) (by kernel_rfl) (HEK.out _ (Below.drew (Below.refl _ _))) ?_
          refine RL.takeV (i := 0) (v := .agg (choC [] false false)) rfl (by kernel_rfl) (by kernel_rfl) (by kernel_rfl) (fun _ _ _ h => h) (by rfl) (fun W2 hSW => by rw [choC_zero]; go_simp) ?_
          (try simp only [Act.put, List.setIfInBounds_toArray, List.set_cons_zero, List.set_cons_succ])
          refine' RL.takeV (i := 1) (v := _) rfl (by kernel_rfl) (by kernel_rfl) (by kernel_rfl) (fun _ _ _ h => h) (by rfl) ?hk29 ?_
          case hk29 => (intro W hSW; have g : W.cell? ⟨19, 0, none⟩ = some (.iface 189 (.pointer (some (a 20)))) := hSW; go_simp; try with_reducible rfl)
          (try simp only [Act.put, List.setIfInBounds_toArray, List.set_cons_zero, List.set_cons_succ])
          refine RL.stepK (i := 2) rfl (by kernel_rfl) (by rfl) (fun wa hlwa hswa K hK => ?_)
          have hma := HMZ.out.drew.below hlwa
          refine store_blk_op 55 _ _ rfl (w.heap.size + 1 + 1) (choC [] false false) (choC [] false false) 55 rfl rfl (hma.blk 2 rfl) (by kernel_rfl) rfl (by simp [Value.oneCell', choC]) ?_
          intro V hV hgV
          have hmv := hma.store 2 rfl hV hgV
          have HMV := Lib.hid hmv
          have hlt : 19 < w.heap.size := HGE.out
          refine hK.out _ _ ((hmv.bel.cell (p := ⟨19, 0, none⟩) hlt).trans (HE.out.cell 19 (by decide))) ?_
          clear hK hV hgV hmv hlt hma
          (try simp only [Act.put, List.setIfInBounds_toArray, List.set_cons_zero, List.set_cons_succ])
          refine' RL.takeV (i := 3) (v := _) rfl (by kernel_rfl) (by kernel_rfl) (by kernel_rfl) (fun _ _ _ h => h) (by rfl) ?hk30 ?_
          case hk30 => (intro W hSW; go_simp; try with_reducible rfl)
          (try simp only [Act.put, List.setIfInBounds_toArray, List.set_cons_zero, List.set_cons_succ])
          refine RL.done (by kernel_rfl) (fun wd hlwd hswd => ?_)
          have HMD := Lib.hid (HMV.out.below hlwd)
          have hz := HMD.out.blk 2 rfl
          have y0 := hz.cell 0 (v := .string ⟨#[]⟩) rfl
          have y1 := hz.cell 1 (v := .string ⟨#[]⟩) rfl
          have y2 := hz.cell 2 (v := .string ⟨#[]⟩) rfl
          have y3 := hz.cell 3 (v := .string ⟨#[]⟩) rfl
          have y4 := hz.cell 4 (v := .string ⟨#[]⟩) rfl
          have y5 := hz.cell 5 (v := .string ⟨#[]⟩) rfl
          have y6 := hz.cell 6 (v := .string ⟨#[]⟩) rfl
          have y7 := hz.cell 7 (v := .string ⟨#[]⟩) rfl
          have y8 := hz.cell 8 (v := .bool false) rfl
          have y9 := hz.cell 9 (v := .bool false) rfl
          clear hz hlwd hswd
          go_wp2_with fail
          refine bodyPost_ret (v := .tuple #[.agg #[.string ⟨#[]⟩, .string ⟨#[]⟩, .string ⟨#[]⟩, .string ⟨#[]⟩, .string ⟨#[]⟩, .string ⟨#[]⟩, .string ⟨#[]⟩, .string ⟨#[]⟩, .bool false, .bool false], .iface 189 (.pointer (some (a 20)))]) (by simp [results, Tryd.results24, go_sem, y0, y1, y2, y3, y4, y5, y6, y7, y8, y9]) rfl ?_
          exact AgrPost.bad (HNO.out HKB.out) HMD.out.bel
      · have HKB := Lib.hid (show okm m = false by unfold okm; rw [HMK.out]; simp [hkd])
        have kz : (mk != 20) = true := by rw [bne_iff_ne]; exact hkd
        go_upto_region 5 with (fail)
        generalize W.alloc (.cells #[.int .i64 mk, .slice mu nmu cmu, .slice ms nms cms, .slice mn nmn cmn, .slice mb nmb cmb] 32) = Z at *
        have HEK := Lib.hid (show ∀ V, Below Z.heap.size Z V → V.cell? ⟨19, 0, none⟩ = some (.iface 189 (.pointer (some (a 20)))) from fun V hV => (HE.out.below (HMZ.out.bel.trans (hV.mono HMZ.out.bel.size))).cell 19 (by decide))
        have HGE := Lib.hid (World.block_lt_of_cell? w _ (HE.out.cell 19 (by decide)))
        refine RL.start (fun V => V.cell? ⟨19, 0, none⟩ = some (.iface 189 (.pointer (some (a 20))))) (by kernel_rfl) (HEK.out _ (Below.drew (Below.refl _ _))) ?_
        refine RL.takeV (i := 0) (v := .agg (choC [] false false)) rfl (by kernel_rfl) (by kernel_rfl) (by kernel_rfl) (fun _ _ _ h => h) (by rfl) (fun W2 hSW => by rw [choC_zero]; go_simp) ?_
        (try simp only [Act.put, List.setIfInBounds_toArray, List.set_cons_zero, List.set_cons_succ])
        refine' RL.takeV (i := 1) (v := _) rfl (by kernel_rfl) (by kernel_rfl) (by kernel_rfl) (fun _ _ _ h => h) (by rfl) ?hk31 ?_
        case hk31 => (intro W hSW; have g : W.cell? ⟨19, 0, none⟩ = some (.iface 189 (.pointer (some (a 20)))) := hSW; go_simp; try with_reducible rfl)
        (try simp only [Act.put, List.setIfInBounds_toArray, List.set_cons_zero, List.set_cons_succ])
        refine RL.stepK (i := 2) rfl (by kernel_rfl) (by rfl) (fun wa hlwa hswa K hK => ?_)
        have hma := HMZ.out.drew.below hlwa
        refine store_blk_op 55 _ _ rfl (w.heap.size + 1 + 1) (choC [] false false) (choC [] false false) 55 rfl rfl (hma.blk 2 rfl) (by kernel_rfl) rfl (by simp [Value.oneCell', choC]) ?_
        intro V hV hgV
        have hmv := hma.store 2 rfl hV hgV
        have HMV := Lib.hid hmv
        have hlt : 19 < w.heap.size := HGE.out
        refine hK.out _ _ ((hmv.bel.cell (p := ⟨19, 0, none⟩) hlt).trans (HE.out.cell 19 (by decide))) ?_
        clear hK hV hgV hmv hlt hma
        (try simp only [Act.put, List.setIfInBounds_toArray, List.set_cons_zero, List.set_cons_succ])
        refine' RL.takeV (i := 3) (v := _) rfl (by kernel_rfl) (by kernel_rfl) (by kernel_rfl) (fun _ _ _ h => h) (by rfl) ?hk32 ?_
        case hk32 => (intro W hSW; go_simp; try with_reducible rfl)
        (try simp only [Act.put, List.setIfInBounds_toArray, List.set_cons_zero, List.set_cons_succ])
        refine RL.done (by kernel_rfl) (fun wd hlwd hswd => ?_)
        have HMD := Lib.hid (HMV.out.below hlwd)
        have hz := HMD.out.blk 2 rfl
        have y0 := hz.cell 0 (v := .string ⟨#[]⟩) rfl
        have y1 := hz.cell 1 (v := .string ⟨#[]⟩) rfl
        have y2 := hz.cell 2 (v := .string ⟨#[]⟩) rfl
        have y3 := hz.cell 3 (v := .string ⟨#[]⟩) rfl
        have y4 := hz.cell 4 (v := .string ⟨#[]⟩) rfl
        have y5 := hz.cell 5 (v := .string ⟨#[]⟩) rfl
        have y6 := hz.cell 6 (v := .string ⟨#[]⟩) rfl
        have y7 := hz.cell 7 (v := .string ⟨#[]⟩) rfl
        have y8 := hz.cell 8 (v := .bool false) rfl
        have y9 := hz.cell 9 (v := .bool false) rfl
        clear hz hlwd hswd
        go_wp2_with fail
        refine bodyPost_ret (v := .tuple #[.agg #[.string ⟨#[]⟩, .string ⟨#[]⟩, .string ⟨#[]⟩, .string ⟨#[]⟩, .string ⟨#[]⟩, .string ⟨#[]⟩, .string ⟨#[]⟩, .string ⟨#[]⟩, .bool false, .bool false], .iface 189 (.pointer (some (a 20)))]) (by simp [results, Tryd.results24, go_sem, y0, y1, y2, y3, y4, y5, y6, y7, y8, y9]) rfl ?_
        exact AgrPost.bad (HNO.out HKB.out) HMD.out.bel
    · obtain rfl : k = 2 := by omega
      have HOKS := Lib.hid (show okm ca = true ∧ okm sa = true from ⟨HK0.out (by omega), HK1.out (by omega)⟩)
      have HPO := Lib.hid (okm_len HOKS.out.1)
      have HQO := Lib.hid (okm_len HOKS.out.2)
      obtain ⟨R, hR⟩ : ∃ R, agr ca.n sa.n 8 [] = R := ⟨_, rfl⟩
      have HR := Lib.hid hR
      clear hR
      go_upto_region 8 with (fail)
      refine wp_nameO (fun V hV => ?_)
      have hmv := HM.out.alloc #[.string ⟨#[]⟩, .string ⟨#[]⟩, .string ⟨#[]⟩, .string ⟨#[]⟩, .string ⟨#[]⟩, .string ⟨#[]⟩, .string ⟨#[]⟩, .string ⟨#[]⟩, .bool false, .bool false] 55
      have HMV := Lib.hid (show Mem w [] V [Sp.blk w.heap.size 32 #[.int .i64 pk, .slice pu pnu pcu, .slice ps pns pcs, .slice pn pnn pcn, .slice pb pnb pcb], Sp.blk (w.heap.size + 1) 32 #[.int .i64 qk, .slice qu qnu qcu, .slice qs qns qcs, .slice qn qnn qcn, .slice qb qnb qcb], Sp.blk (w.heap.size + 1 + 1) 55 (choC [] false false), Sp.blk P 32 #[.int .i64 pk, .slice pu pnu pcu, .slice ps pns pcs, .slice pn pnn pcn, .slice pb pnb pcb, .int .i64 qk, .slice qu qnu qcu, .slice qs qns qcs, .slice qn qnn qcn, .slice qb qnb qcb], Sp.blk W.heap.size 55 (choC [] false false)] by rw [hV, choC_zero]; exact hmv)
      clear hV hmv
      generalize W.heap.size = P2 at *
      go_wp2_with fail
      go_loopw [33] (fun i wr => ∃ (k : Nat) (out : List ByteArray) (W : World), k ≤ 8 ∧ W = wr ∧ i = .int .i64 k ∧ AgR ca sa R out k ∧ Mem w [] W [Sp.blk w.heap.size 32 #[.int .i64 pk, .slice pu pnu pcu, .slice ps pns pcs, .slice pn pnn pcn, .slice pb pnb pcb], Sp.blk (w.heap.size + 1) 32 #[.int .i64 qk, .slice qu qnu qcu, .slice qs qns qcs, .slice qn qnn qcn, .slice qb qnb qcb], Sp.blk (w.heap.size + 1 + 1) 55 (choC [] false false), Sp.blk P 32 #[.int .i64 pk, .slice pu pnu pcu, .slice ps pns pcs, .slice pn pnn pcn, .slice pb pnb pcb, .int .i64 qk, .slice qu qnu qcu, .slice qs qns qcs, .slice qn qnn qcn, .slice qb qnb qcb], Sp.blk P2 55 (choC out false false)]) (fun i _ => 9 - (intOf i).toNat)
      case atStart => exact ⟨0, [], _, by omega, rfl, rfl, ⟨rfl, HR.out⟩, HMV.out⟩
      case round =>
        obtain ⟨k, out, W, hk, rfl, rfl, hag, hm⟩ := hrel
        have HM := Lib.hid hm
        have HA := Lib.hid hag
        clear hm hag HMV
        by_cases hk8 : k < 8
        · have hki : (k : Int) < 8 := by omega
          obtain ⟨nm, hnm⟩ : ∃ nm, whereL.getD k e0 = nm := ⟨_, rfl⟩
          have HPL2 := Lib.hid (show ∀ W : World, Calls Tryd.prog 40 #[.pointer (some ⟨P2, 0, none⟩), .int .i64 (k : Int)] W fun e w' => e = .returned (.tuple #[.pointer (some ⟨P2, k, none⟩), .string nm]) ∧ W = w' from fun W => hnm ▸ place_any W P2 k hk8)
          have HNM := Lib.hid hnm
          clear hnm
          have HCA := Lib.hid (choC_at out k hk8)
          obtain ⟨old, hold⟩ : ∃ old, out.getD k e0 = old := ⟨_, rfl⟩
          rw [hold] at HCA
          clear hold
          by_cases hk4 : k = 4 ∨ k = 5
          · obtain ⟨y, hy⟩ : ∃ y, out.getD (k - 2) e0 = y := ⟨_, rfl⟩
            have hcy := choC_at out (k - 2) (by omega)
            rw [hy] at hcy
            have cy := (HM.out.blk 4 rfl).cell (k - 2) hcy
            have HY := Lib.hid hy
            have HK4 := Lib.hid hk4
            clear hy hcy
            by_cases hyc : y = cipherB
            · have HAN := Lib.hid (HA.out.imp hk4 (by rw [HY.out]; exact hyc))
              have hyl : y.toList = [99, 104, 97, 99, 104, 97, 50, 48, 45, 112, 111, 108, 121, 49, 51, 48, 53] := by rw [hyc, ByteArray.toList_eq]; rfl
              clear hyc
              rcases hk4 with rfl | rfl
              · go_wp2_with (first
                  | (go_at_call 40; refine (HPL2.out _).mono ?_; rintro e w3 ⟨rfl, rfl⟩; skip)
                  | (refine store_string rfl 9 _ _ rfl rfl rfl Tryd.underlying9 (by kernel_rfl) (HM.out.blk 4 rfl) HCA.out ?_
                     intro V hV hgV
                     have hmv := HM.out.store 4 rfl hV hgV
                     simp only [List.set_cons_zero, List.set_cons_succ] at hmv
                     rw [show (choC out false false).setIfInBounds 4 (.string ⟨#[105, 109, 112, 108, 105, 101, 100]⟩) = choC (out ++ [⟨#[105, 109, 112, 108, 105, 101, 100]⟩]) false false by have h1 := HA.out.1; rw [← h1]; exact choC_set out _ (by omega)] at hmv
                     have HN := Lib.hid hmv
                     clear hV hgV hmv))
                go_roundw
                case rel =>
                  first
                    | exact ⟨5, out ++ [impliedB], _, by omega, rfl, rfl, HAN.out, HN.out⟩
                    | ((repeat apply Exists.intro); refine ⟨?_, rfl⟩; exact ⟨5, out ++ [impliedB], _, by omega, rfl, rfl, HAN.out, HN.out⟩)
                case measure => (first | (simp [intOf]; done) | (simp [intOf]; omega))
              · go_wp2_with (first
                  | (go_at_call 40; refine (HPL2.out _).mono ?_; rintro e w3 ⟨rfl, rfl⟩; skip)
                  | (refine store_string rfl 9 _ _ rfl rfl rfl Tryd.underlying9 (by kernel_rfl) (HM.out.blk 4 rfl) HCA.out ?_
                     intro V hV hgV
                     have hmv := HM.out.store 4 rfl hV hgV
                     simp only [List.set_cons_zero, List.set_cons_succ] at hmv
                     rw [show (choC out false false).setIfInBounds 5 (.string ⟨#[105, 109, 112, 108, 105, 101, 100]⟩) = choC (out ++ [⟨#[105, 109, 112, 108, 105, 101, 100]⟩]) false false by have h1 := HA.out.1; rw [← h1]; exact choC_set out _ (by omega)] at hmv
                     have HN := Lib.hid hmv
                     clear hV hgV hmv))
                go_roundw
                case rel =>
                  first
                    | exact ⟨6, out ++ [impliedB], _, by omega, rfl, rfl, HAN.out, HN.out⟩
                    | ((repeat apply Exists.intro); refine ⟨?_, rfl⟩; exact ⟨6, out ++ [impliedB], _, by omega, rfl, rfl, HAN.out, HN.out⟩)
                case measure => (first | (simp [intOf]; done) | (simp [intOf]; omega))
            · have HNC := Lib.hid (show NoC out k from fun h => hyc (HY.out.symm.trans h.2))
              have hyn : (y.toList == [99, 104, 97, 99, 104, 97, 50, 48, 45, 112, 111, 108, 121, 49, 51, 48, 53]) = false := by have := str_ne hyc; rw [show cipherB.toList = [99, 104, 97, 99, 104, 97, 50, 48, 45, 112, 111, 108, 121, 49, 51, 48, 53] by rw [ByteArray.toList_eq]; rfl] at this; exact this
              have hyn2 : ¬ y.toList = [99, 104, 97, 99, 104, 97, 50, 48, 45, 112, 111, 108, 121, 49, 51, 48, 53] := by simpa using hyn
              clear hyc
              rcases hk4 with rfl | rfl
              · skip
                obtain ⟨pb2, po, pB, pm, pc, rfl, hpl, hpc, hps, hpz, hpx⟩ := nth_list HPR.out HPV.out 4 (by have := HPO.out.2.2.1; omega)
                obtain ⟨qb2, qo, qB, qm, qc, rfl, hql, hqc, hqs, hqz, hqx⟩ := nth_list HQR.out HQV.out 4 (by have := HQO.out.2.2.1; omega)
                have hkp : (4 : Int) < pnn := by have := HPO.out.2.2.1; have := HPL.out; omega
                have hkq : (4 : Int) < qnn := by have := HQO.out.2.2.1; have := HQL.out; omega
                have hkp2 : 4 < pnn := by omega
                have hkq2 : 4 < qnn := by omega
                have HPC := Lib.hid (And.intro hpl hpc)
                have HQC := Lib.hid (And.intro hql hqc)
                obtain ⟨r, hr⟩ : ∃ r, chooseL (ca.n.getD 4 []) (sa.n.getD 4 []) = r := ⟨_, rfl⟩
                have HCH := Lib.hid (show ∀ W, Below w.heap.size w W → Calls Tryd.prog 14 #[.slice pB pm pc, .slice qB qm qc] W fun e w' => e = .returned (.tuple #[.string (r.getD e0), chE a r]) ∧ Below W.heap.size W w' from fun W hW => by
                  have := Choose_any W a ((HE.out.below hW).cell 12 (by decide)) _ _ _ _ (hps.below hW) (hqs.below hW)
                  rw [hr] at this
                  exact this)
                have HRR := Lib.hid hr
                have HBA := Lib.hid (HM.out.blk 0 rfl)
                have HBB := Lib.hid (HM.out.blk 1 rfl)
                have HBW := Lib.hid HM.out.bel
                clear hpl hpc hps hpz hpx hql hqc hqs hqz hqx hr
                go_upto_region 14 with (first | (go_at_call 40; refine (HPL2.out _).mono ?_; rintro e w3 ⟨rfl, rfl⟩; skip))
                refine RL.start (RL.Aft W) (by kernel_rfl) (RL.Aft.drew (RL.Aft.refl W)) ?_
                refine' RL.takeV (i := 0) (v := _) rfl (by kernel_rfl) (by kernel_rfl) (by kernel_rfl) (fun _ _ _ h => h) (by rfl) ?hk33 ?_
                case hk33 => (intro W hSW; go_simp; try with_reducible rfl)
                (try simp only [Act.put, List.setIfInBounds_toArray, List.set_cons_zero, List.set_cons_succ])
                refine' RL.takeV (i := 1) (v := _) rfl (by kernel_rfl) (by kernel_rfl) (by kernel_rfl) (fun _ _ _ h => h) (by rfl) ?hk34 ?_
                case hk34 => (intro W hSW; have g := (HBA.out.below hSW HBA.out.lt).cell 3 (v := .slice (some ⟨pb2, po, none⟩) pnn pcn) rfl; go_simp; try with_reducible rfl)
                (try simp only [Act.put, List.setIfInBounds_toArray, List.set_cons_zero, List.set_cons_succ])
                refine' RL.takeV (i := 2) (v := _) rfl (by kernel_rfl) (by kernel_rfl) (by kernel_rfl) (fun _ _ _ h => h) (by rfl) ?hk35 ?_
                case hk35 => (intro W hSW; go_simp; try with_reducible rfl)
                (try simp only [Act.put, List.setIfInBounds_toArray, List.set_cons_zero, List.set_cons_succ])
                refine' RL.takeV (i := 3) (v := _) rfl (by kernel_rfl) (by kernel_rfl) (by kernel_rfl) (fun _ _ _ h => h) (by rfl) ?hk36 ?_
                case hk36 => (intro W hSW; go_simp; try with_reducible rfl)
                (try simp only [Act.put, List.setIfInBounds_toArray, List.set_cons_zero, List.set_cons_succ])
                refine' RL.takeV (i := 4) (v := _) rfl (by kernel_rfl) (by kernel_rfl) (by kernel_rfl) (fun _ _ _ h => h) (by rfl) ?hk37 ?_
                case hk37 => (intro W hSW; have g : W.cell? ⟨pb2, po + 4, none⟩ = some (.slice pB pm pc) := ((HBW.out.trans (hSW.mono HBW.out.size)).cell (p := ⟨pb2, po + 4, none⟩) HPC.out.1).trans HPC.out.2; go_simp; try with_reducible rfl)
                (try simp only [Act.put, List.setIfInBounds_toArray, List.set_cons_zero, List.set_cons_succ])
                refine' RL.takeV (i := 5) (v := _) rfl (by kernel_rfl) (by kernel_rfl) (by kernel_rfl) (fun _ _ _ h => h) (by rfl) ?hk38 ?_
                case hk38 => (intro W hSW; go_simp; try with_reducible rfl)
                (try simp only [Act.put, List.setIfInBounds_toArray, List.set_cons_zero, List.set_cons_succ])
                refine' RL.takeV (i := 6) (v := _) rfl (by kernel_rfl) (by kernel_rfl) (by kernel_rfl) (fun _ _ _ h => h) (by rfl) ?hk39 ?_
                case hk39 => (intro W hSW; have g := (HBB.out.below hSW HBB.out.lt).cell 3 (v := .slice (some ⟨qb2, qo, none⟩) qnn qcn) rfl; go_simp; try with_reducible rfl)
                (try simp only [Act.put, List.setIfInBounds_toArray, List.set_cons_zero, List.set_cons_succ])
                refine' RL.takeV (i := 7) (v := _) rfl (by kernel_rfl) (by kernel_rfl) (by kernel_rfl) (fun _ _ _ h => h) (by rfl) ?hk40 ?_
                case hk40 => (intro W hSW; go_simp; try with_reducible rfl)
                (try simp only [Act.put, List.setIfInBounds_toArray, List.set_cons_zero, List.set_cons_succ])
                refine' RL.takeV (i := 8) (v := _) rfl (by kernel_rfl) (by kernel_rfl) (by kernel_rfl) (fun _ _ _ h => h) (by rfl) ?hk41 ?_
                case hk41 => (intro W hSW; go_simp; try with_reducible rfl)
                (try simp only [Act.put, List.setIfInBounds_toArray, List.set_cons_zero, List.set_cons_succ])
                refine' RL.takeV (i := 9) (v := _) rfl (by kernel_rfl) (by kernel_rfl) (by kernel_rfl) (fun _ _ _ h => h) (by rfl) ?hk42 ?_
                case hk42 => (intro W hSW; have g : W.cell? ⟨qb2, qo + 4, none⟩ = some (.slice qB qm qc) := ((HBW.out.trans (hSW.mono HBW.out.size)).cell (p := ⟨qb2, qo + 4, none⟩) HQC.out.1).trans HQC.out.2; go_simp; try with_reducible rfl)
                (try simp only [Act.put, List.setIfInBounds_toArray, List.set_cons_zero, List.set_cons_succ])
                refine' RL.takeC (i := 10) (v := .tuple #[.string (r.getD e0), chE a r]) 14 #[.slice pB pm pc, .slice qB qm qc] rfl (by kernel_rfl) (by kernel_rfl) (by kernel_rfl) (fun _ _ _ h => h) (by rfl) ?hk43 ?hc43 ?_
                case hk43 => (intro W; go_simp; try with_reducible rfl)
                case hc43 => (intro W hSW; exact (HCH.out W (HBW.out.trans (hSW.mono HBW.out.size))).mono fun e w' h => ⟨h.1, h.2, RL.Aft.lat hSW h.2⟩)
                (try simp only [Act.put, List.setIfInBounds_toArray, List.set_cons_zero, List.set_cons_succ])
                refine' RL.takeV (i := 11) (v := _) rfl (by kernel_rfl) (by kernel_rfl) (by kernel_rfl) (fun _ _ _ h => h) (by rfl) ?hk44 ?_
                case hk44 => (intro W hSW; go_simp; try with_reducible rfl)
                (try simp only [Act.put, List.setIfInBounds_toArray, List.set_cons_zero, List.set_cons_succ])
                refine' RL.takeV (i := 12) (v := _) rfl (by kernel_rfl) (by kernel_rfl) (by kernel_rfl) (fun _ _ _ h => h) (by rfl) ?hk45 ?_
                case hk45 => (intro W hSW; go_simp; try with_reducible rfl)
                (try simp only [Act.put, List.setIfInBounds_toArray, List.set_cons_zero, List.set_cons_succ])
                refine' RL.takeV (i := 13) (v := _) rfl (by kernel_rfl) (by kernel_rfl) (by kernel_rfl) (fun _ _ _ h => h) (by rfl) ?hk46 ?_
                case hk46 => (intro W hSW; go_simp; try with_reducible rfl)
                (try simp only [Act.put, List.setIfInBounds_toArray, List.set_cons_zero, List.set_cons_succ])
                refine' RL.takeV (i := 14) (v := _) rfl (by kernel_rfl) (by kernel_rfl) (by kernel_rfl) (fun _ _ _ h => h) (by rfl) ?hk47 ?_
                case hk47 => (intro W hSW; go_simp; try with_reducible rfl)
                (try simp only [Act.put, List.setIfInBounds_toArray, List.set_cons_zero, List.set_cons_succ])
                refine' RL.takeV (i := 15) (v := _) rfl (by kernel_rfl) (by kernel_rfl) (by kernel_rfl) (fun _ _ _ h => h) (by rfl) ?hk48 ?_
                case hk48 => (intro W hSW; go_simp; try with_reducible rfl)
                (try simp only [Act.put, List.setIfInBounds_toArray, List.set_cons_zero, List.set_cons_succ])
                refine RL.done (by kernel_rfl) (fun wd hlwd hswd => ?_)
                have HMD := Lib.hid (HM.out.below (show Below W.heap.size W wd from hswd))
                clear hlwd hswd hkp hkq hkp2 hkq2 HM
                have HM := HMD
                clear HMD
                cases r with
                | some x =>
                  have HAN := Lib.hid (HA.out.some hk8 HNC.out HRR.out)
                  have er : chE a (some x) = .nilIface := rfl
                  have eg : (some x : Option ByteArray).getD e0 = x := rfl
                  rw [er, eg]
                  go_wp2_with (first
                    | (refine store_string rfl 9 _ _ rfl rfl rfl Tryd.underlying9 (by kernel_rfl) (HM.out.blk 4 rfl) HCA.out ?_
                       intro V hV hgV
                       have hmv := HM.out.store 4 rfl hV hgV
                       simp only [List.set_cons_zero, List.set_cons_succ] at hmv
                       rw [show (choC out false false).setIfInBounds 4 (.string x) = choC (out ++ [x]) false false by have h1 := HA.out.1; rw [← h1]; exact choC_set out _ (by omega)] at hmv
                       have HN := Lib.hid hmv
                       clear hV hgV hmv))
                  go_roundw
                  case rel =>
                    first
                      | exact ⟨5, out ++ [x], _, by omega, rfl, rfl, HAN.out, HN.out⟩
                      | ((repeat apply Exists.intro); refine ⟨?_, rfl⟩; exact ⟨5, out ++ [x], _, by omega, rfl, rfl, HAN.out, HN.out⟩)
                  case measure => (first | (simp [intOf]; done) | (simp [intOf]; omega))
                | none =>
                  have HRE := Lib.hid (HR.out.trans (HA.out.none hk8 HNC.out HRR.out))
                  have er : chE a (none : Option ByteArray) = .iface 189 (.pointer (some (a 13))) := rfl
                  rw [er]
                  have HLT := Lib.hid (show w.heap.size + 1 + 1 < wd.heap.size from (HM.out.blk 2 rfl).lt)
                  go_wp2_with (first
                    | (go_at_call 41; refine (Wrap_any _ nm _).mono ?_; rintro e w5 ⟨rfl, hf, hb⟩; skip; have HFB := Lib.hid hf; have HMx := Lib.hid (HM.out.below hb); clear HM; have HM := HMx; clear HMx; clear hf hb)
                    | (refine Cv.store_blk rfl 55 _ _ rfl (w.heap.size + 1 + 1) #[.string ⟨#[]⟩, .string ⟨#[]⟩, .string ⟨#[]⟩, .string ⟨#[]⟩, .string ⟨#[]⟩, .string ⟨#[]⟩, .string ⟨#[]⟩, .string ⟨#[]⟩, .bool false, .bool false] #[.string ⟨#[]⟩, .string ⟨#[]⟩, .string ⟨#[]⟩, .string ⟨#[]⟩, .string ⟨#[]⟩, .string ⟨#[]⟩, .string ⟨#[]⟩, .string ⟨#[]⟩, .bool false, .bool false] 55 rfl rfl (HM.out.blk 2 rfl) (by kernel_rfl) rfl (by simp [Value.oneCell']) ?_
                       intro V hV hgV
                       have HMV := Lib.hid (HM.out.store 2 rfl hV hgV)
                       have HFV := Lib.hid (blk_grown HFB.out hgV (by have := HLT.out; omega))
                       have y0 := hV.cell 0 (v := .string ⟨#[]⟩) rfl
                       have y1 := hV.cell 1 (v := .string ⟨#[]⟩) rfl
                       have y2 := hV.cell 2 (v := .string ⟨#[]⟩) rfl
                       have y3 := hV.cell 3 (v := .string ⟨#[]⟩) rfl
                       have y4 := hV.cell 4 (v := .string ⟨#[]⟩) rfl
                       have y5 := hV.cell 5 (v := .string ⟨#[]⟩) rfl
                       have y6 := hV.cell 6 (v := .string ⟨#[]⟩) rfl
                       have y7 := hV.cell 7 (v := .string ⟨#[]⟩) rfl
                       have y8 := hV.cell 8 (v := .bool false) rfl
                       have y9 := hV.cell 9 (v := .bool false) rfl
                       clear hV hgV))
                  refine bodyPost_ret (v := .tuple #[.agg #[.string ⟨#[]⟩, .string ⟨#[]⟩, .string ⟨#[]⟩, .string ⟨#[]⟩, .string ⟨#[]⟩, .string ⟨#[]⟩, .string ⟨#[]⟩, .string ⟨#[]⟩, .bool false, .bool false], .iface 88 (.pointer (some ⟨wd.heap.size, 0, none⟩))]) (by simp [results, Tryd.results24, go_sem, y0, y1, y2, y3, y4, y5, y6, y7, y8, y9]) rfl ?_
                  exact AgrPost.fault (by rw [HOKS.out.1, HOKS.out.2]; rfl) HRE.out HMV.out.bel (HNM.out ▸ HFV.out)
              · skip
                obtain ⟨pb2, po, pB, pm, pc, rfl, hpl, hpc, hps, hpz, hpx⟩ := nth_list HPR.out HPV.out 5 (by have := HPO.out.2.2.1; omega)
                obtain ⟨qb2, qo, qB, qm, qc, rfl, hql, hqc, hqs, hqz, hqx⟩ := nth_list HQR.out HQV.out 5 (by have := HQO.out.2.2.1; omega)
                have hkp : (5 : Int) < pnn := by have := HPO.out.2.2.1; have := HPL.out; omega
                have hkq : (5 : Int) < qnn := by have := HQO.out.2.2.1; have := HQL.out; omega
                have hkp2 : 5 < pnn := by omega
                have hkq2 : 5 < qnn := by omega
                have HPC := Lib.hid (And.intro hpl hpc)
                have HQC := Lib.hid (And.intro hql hqc)
                obtain ⟨r, hr⟩ : ∃ r, chooseL (ca.n.getD 5 []) (sa.n.getD 5 []) = r := ⟨_, rfl⟩
                have HCH := Lib.hid (show ∀ W, Below w.heap.size w W → Calls Tryd.prog 14 #[.slice pB pm pc, .slice qB qm qc] W fun e w' => e = .returned (.tuple #[.string (r.getD e0), chE a r]) ∧ Below W.heap.size W w' from fun W hW => by
                  have := Choose_any W a ((HE.out.below hW).cell 12 (by decide)) _ _ _ _ (hps.below hW) (hqs.below hW)
                  rw [hr] at this
                  exact this)
                have HRR := Lib.hid hr
                have HBA := Lib.hid (HM.out.blk 0 rfl)
                have HBB := Lib.hid (HM.out.blk 1 rfl)
                have HBW := Lib.hid HM.out.bel
                clear hpl hpc hps hpz hpx hql hqc hqs hqz hqx hr
                go_upto_region 14 with (first | (go_at_call 40; refine (HPL2.out _).mono ?_; rintro e w3 ⟨rfl, rfl⟩; skip))
                refine RL.start (RL.Aft W) (by kernel_rfl) (RL.Aft.drew (RL.Aft.refl W)) ?_
                refine' RL.takeV (i := 0) (v := _) rfl (by kernel_rfl) (by kernel_rfl) (by kernel_rfl) (fun _ _ _ h => h) (by rfl) ?hk49 ?_
                case hk49 => (intro W hSW; go_simp; try with_reducible rfl)
                (try simp only [Act.put, List.setIfInBounds_toArray, List.set_cons_zero, List.set_cons_succ])
                refine' RL.takeV (i := 1) (v := _) rfl (by kernel_rfl) (by kernel_rfl) (by kernel_rfl) (fun _ _ _ h => h) (by rfl) ?hk50 ?_
                case hk50 => (intro W hSW; have g := (HBA.out.below hSW HBA.out.lt).cell 3 (v := .slice (some ⟨pb2, po, none⟩) pnn pcn) rfl; go_simp; try with_reducible rfl)
                (try simp only [Act.put, List.setIfInBounds_toArray, List.set_cons_zero, List.set_cons_succ])
                refine' RL.takeV (i := 2) (v := _) rfl (by kernel_rfl) (by kernel_rfl) (by kernel_rfl) (fun _ _ _ h => h) (by rfl) ?hk51 ?_
                case hk51 => (intro W hSW; go_simp; try with_reducible rfl)
                (try simp only [Act.put, List.setIfInBounds_toArray, List.set_cons_zero, List.set_cons_succ])
                refine' RL.takeV (i := 3) (v := _) rfl (by kernel_rfl) (by kernel_rfl) (by kernel_rfl) (fun _ _ _ h => h) (by rfl) ?hk52 ?_
                case hk52 => (intro W hSW; go_simp; try with_reducible rfl)
                (try simp only [Act.put, List.setIfInBounds_toArray, List.set_cons_zero, List.set_cons_succ])
                refine' RL.takeV (i := 4) (v := _) rfl (by kernel_rfl) (by kernel_rfl) (by kernel_rfl) (fun _ _ _ h => h) (by rfl) ?hk53 ?_
                case hk53 => (intro W hSW; have g : W.cell? ⟨pb2, po + 5, none⟩ = some (.slice pB pm pc) := ((HBW.out.trans (hSW.mono HBW.out.size)).cell (p := ⟨pb2, po + 5, none⟩) HPC.out.1).trans HPC.out.2; go_simp; try with_reducible rfl)
                (try simp only [Act.put, List.setIfInBounds_toArray, List.set_cons_zero, List.set_cons_succ])
                refine' RL.takeV (i := 5) (v := _) rfl (by kernel_rfl) (by kernel_rfl) (by kernel_rfl) (fun _ _ _ h => h) (by rfl) ?hk54 ?_
                case hk54 => (intro W hSW; go_simp; try with_reducible rfl)
                (try simp only [Act.put, List.setIfInBounds_toArray, List.set_cons_zero, List.set_cons_succ])
                refine' RL.takeV (i := 6) (v := _) rfl (by kernel_rfl) (by kernel_rfl) (by kernel_rfl) (fun _ _ _ h => h) (by rfl) ?hk55 ?_
                case hk55 => (intro W hSW; have g := (HBB.out.below hSW HBB.out.lt).cell 3 (v := .slice (some ⟨qb2, qo, none⟩) qnn qcn) rfl; go_simp; try with_reducible rfl)
                (try simp only [Act.put, List.setIfInBounds_toArray, List.set_cons_zero, List.set_cons_succ])
                refine' RL.takeV (i := 7) (v := _) rfl (by kernel_rfl) (by kernel_rfl) (by kernel_rfl) (fun _ _ _ h => h) (by rfl) ?hk56 ?_
                case hk56 => (intro W hSW; go_simp; try with_reducible rfl)
                (try simp only [Act.put, List.setIfInBounds_toArray, List.set_cons_zero, List.set_cons_succ])
                refine' RL.takeV (i := 8) (v := _) rfl (by kernel_rfl) (by kernel_rfl) (by kernel_rfl) (fun _ _ _ h => h) (by rfl) ?hk57 ?_
                case hk57 => (intro W hSW; go_simp; try with_reducible rfl)
                (try simp only [Act.put, List.setIfInBounds_toArray, List.set_cons_zero, List.set_cons_succ])
                refine' RL.takeV (i := 9) (v := _) rfl (by kernel_rfl) (by kernel_rfl) (by kernel_rfl) (fun _ _ _ h => h) (by rfl) ?hk58 ?_
                case hk58 => (intro W hSW; have g : W.cell? ⟨qb2, qo + 5, none⟩ = some (.slice qB qm qc) := ((HBW.out.trans (hSW.mono HBW.out.size)).cell (p := ⟨qb2, qo + 5, none⟩) HQC.out.1).trans HQC.out.2; go_simp; try with_reducible rfl)
                (try simp only [Act.put, List.setIfInBounds_toArray, List.set_cons_zero, List.set_cons_succ])
                refine' RL.takeC (i := 10) (v := .tuple #[.string (r.getD e0), chE a r]) 14 #[.slice pB pm pc, .slice qB qm qc] rfl (by kernel_rfl) (by kernel_rfl) (by kernel_rfl) (fun _ _ _ h => h) (by rfl) ?hk59 ?hc59 ?_
                case hk59 => (intro W; go_simp; try with_reducible rfl)
                case hc59 => (intro W hSW; exact (HCH.out W (HBW.out.trans (hSW.mono HBW.out.size))).mono fun e w' h => ⟨h.1, h.2, RL.Aft.lat hSW h.2⟩)
                (try simp only [Act.put, List.setIfInBounds_toArray, List.set_cons_zero, List.set_cons_succ])
                refine' RL.takeV (i := 11) (v := _) rfl (by kernel_rfl) (by kernel_rfl) (by kernel_rfl) (fun _ _ _ h => h) (by rfl) ?hk60 ?_
                case hk60 => (intro W hSW; go_simp; try with_reducible rfl)
                (try simp only [Act.put, List.setIfInBounds_toArray, List.set_cons_zero, List.set_cons_succ])
                refine' RL.takeV (i := 12) (v := _) rfl (by kernel_rfl) (by kernel_rfl) (by kernel_rfl) (fun _ _ _ h => h) (by rfl) ?hk61 ?_
                case hk61 => (intro W hSW; go_simp; try with_reducible rfl)
                (try simp only [Act.put, List.setIfInBounds_toArray, List.set_cons_zero, List.set_cons_succ])
                refine' RL.takeV (i := 13) (v := _) rfl (by kernel_rfl) (by kernel_rfl) (by kernel_rfl) (fun _ _ _ h => h) (by rfl) ?hk62 ?_
                case hk62 => (intro W hSW; go_simp; try with_reducible rfl)
                (try simp only [Act.put, List.setIfInBounds_toArray, List.set_cons_zero, List.set_cons_succ])
                refine' RL.takeV (i := 14) (v := _) rfl (by kernel_rfl) (by kernel_rfl) (by kernel_rfl) (fun _ _ _ h => h) (by rfl) ?hk63 ?_
                case hk63 => (intro W hSW; go_simp; try with_reducible rfl)
                (try simp only [Act.put, List.setIfInBounds_toArray, List.set_cons_zero, List.set_cons_succ])
                refine' RL.takeV (i := 15) (v := _) rfl (by kernel_rfl) (by kernel_rfl) (by kernel_rfl) (fun _ _ _ h => h) (by rfl) ?hk64 ?_
                case hk64 => (intro W hSW; go_simp; try with_reducible rfl)
                (try simp only [Act.put, List.setIfInBounds_toArray, List.set_cons_zero, List.set_cons_succ])
                refine RL.done (by kernel_rfl) (fun wd hlwd hswd => ?_)
                have HMD := Lib.hid (HM.out.below (show Below W.heap.size W wd from hswd))
                clear hlwd hswd hkp hkq hkp2 hkq2 HM
                have HM := HMD
                clear HMD
                cases r with
                | some x =>
                  have HAN := Lib.hid (HA.out.some hk8 HNC.out HRR.out)
                  have er : chE a (some x) = .nilIface := rfl
                  have eg : (some x : Option ByteArray).getD e0 = x := rfl
                  rw [er, eg]
                  go_wp2_with (first
                    | (refine store_string rfl 9 _ _ rfl rfl rfl Tryd.underlying9 (by kernel_rfl) (HM.out.blk 4 rfl) HCA.out ?_
                       intro V hV hgV
                       have hmv := HM.out.store 4 rfl hV hgV
                       simp only [List.set_cons_zero, List.set_cons_succ] at hmv
                       rw [show (choC out false false).setIfInBounds 5 (.string x) = choC (out ++ [x]) false false by have h1 := HA.out.1; rw [← h1]; exact choC_set out _ (by omega)] at hmv
                       have HN := Lib.hid hmv
                       clear hV hgV hmv))
                  go_roundw
                  case rel =>
                    first
                      | exact ⟨6, out ++ [x], _, by omega, rfl, rfl, HAN.out, HN.out⟩
                      | ((repeat apply Exists.intro); refine ⟨?_, rfl⟩; exact ⟨6, out ++ [x], _, by omega, rfl, rfl, HAN.out, HN.out⟩)
                  case measure => (first | (simp [intOf]; done) | (simp [intOf]; omega))
                | none =>
                  have HRE := Lib.hid (HR.out.trans (HA.out.none hk8 HNC.out HRR.out))
                  have er : chE a (none : Option ByteArray) = .iface 189 (.pointer (some (a 13))) := rfl
                  rw [er]
                  have HLT := Lib.hid (show w.heap.size + 1 + 1 < wd.heap.size from (HM.out.blk 2 rfl).lt)
                  go_wp2_with (first
                    | (go_at_call 41; refine (Wrap_any _ nm _).mono ?_; rintro e w5 ⟨rfl, hf, hb⟩; skip; have HFB := Lib.hid hf; have HMx := Lib.hid (HM.out.below hb); clear HM; have HM := HMx; clear HMx; clear hf hb)
                    | (refine Cv.store_blk rfl 55 _ _ rfl (w.heap.size + 1 + 1) #[.string ⟨#[]⟩, .string ⟨#[]⟩, .string ⟨#[]⟩, .string ⟨#[]⟩, .string ⟨#[]⟩, .string ⟨#[]⟩, .string ⟨#[]⟩, .string ⟨#[]⟩, .bool false, .bool false] #[.string ⟨#[]⟩, .string ⟨#[]⟩, .string ⟨#[]⟩, .string ⟨#[]⟩, .string ⟨#[]⟩, .string ⟨#[]⟩, .string ⟨#[]⟩, .string ⟨#[]⟩, .bool false, .bool false] 55 rfl rfl (HM.out.blk 2 rfl) (by kernel_rfl) rfl (by simp [Value.oneCell']) ?_
                       intro V hV hgV
                       have HMV := Lib.hid (HM.out.store 2 rfl hV hgV)
                       have HFV := Lib.hid (blk_grown HFB.out hgV (by have := HLT.out; omega))
                       have y0 := hV.cell 0 (v := .string ⟨#[]⟩) rfl
                       have y1 := hV.cell 1 (v := .string ⟨#[]⟩) rfl
                       have y2 := hV.cell 2 (v := .string ⟨#[]⟩) rfl
                       have y3 := hV.cell 3 (v := .string ⟨#[]⟩) rfl
                       have y4 := hV.cell 4 (v := .string ⟨#[]⟩) rfl
                       have y5 := hV.cell 5 (v := .string ⟨#[]⟩) rfl
                       have y6 := hV.cell 6 (v := .string ⟨#[]⟩) rfl
                       have y7 := hV.cell 7 (v := .string ⟨#[]⟩) rfl
                       have y8 := hV.cell 8 (v := .bool false) rfl
                       have y9 := hV.cell 9 (v := .bool false) rfl
                       clear hV hgV))
                  refine bodyPost_ret (v := .tuple #[.agg #[.string ⟨#[]⟩, .string ⟨#[]⟩, .string ⟨#[]⟩, .string ⟨#[]⟩, .string ⟨#[]⟩, .string ⟨#[]⟩, .string ⟨#[]⟩, .string ⟨#[]⟩, .bool false, .bool false], .iface 88 (.pointer (some ⟨wd.heap.size, 0, none⟩))]) (by simp [results, Tryd.results24, go_sem, y0, y1, y2, y3, y4, y5, y6, y7, y8, y9]) rfl ?_
                  exact AgrPost.fault (by rw [HOKS.out.1, HOKS.out.2]; rfl) HRE.out HMV.out.bel (HNM.out ▸ HFV.out)
          · have HNC := Lib.hid (show NoC out k from fun h => hk4 h.1)
            have e4 : ((k : Int) == 4) = false := by rw [beq_eq_false_iff_ne]; omega
            have e5 : ((k : Int) == 5) = false := by rw [beq_eq_false_iff_ne]; omega
            clear hk4
            obtain ⟨pb2, po, pB, pm, pc, rfl, hpl, hpc, hps, hpz, hpx⟩ := nth_list HPR.out HPV.out k (by have := HPO.out.2.2.1; omega)
            obtain ⟨qb2, qo, qB, qm, qc, rfl, hql, hqc, hqs, hqz, hqx⟩ := nth_list HQR.out HQV.out k (by have := HQO.out.2.2.1; omega)
            have hkp : (k : Int) < pnn := by have := HPO.out.2.2.1; have := HPL.out; omega
            have hkq : (k : Int) < qnn := by have := HQO.out.2.2.1; have := HQL.out; omega
            have hkp2 : k < pnn := by omega
            have hkq2 : k < qnn := by omega
            have HPC := Lib.hid (And.intro hpl hpc)
            have HQC := Lib.hid (And.intro hql hqc)
            obtain ⟨r, hr⟩ : ∃ r, chooseL (ca.n.getD k []) (sa.n.getD k []) = r := ⟨_, rfl⟩
            have HCH := Lib.hid (show ∀ W, Below w.heap.size w W → Calls Tryd.prog 14 #[.slice pB pm pc, .slice qB qm qc] W fun e w' => e = .returned (.tuple #[.string (r.getD e0), chE a r]) ∧ Below W.heap.size W w' from fun W hW => by
              have := Choose_any W a ((HE.out.below hW).cell 12 (by decide)) _ _ _ _ (hps.below hW) (hqs.below hW)
              rw [hr] at this
              exact this)
            have HRR := Lib.hid hr
            have HBA := Lib.hid (HM.out.blk 0 rfl)
            have HBB := Lib.hid (HM.out.blk 1 rfl)
            have HBW := Lib.hid HM.out.bel
            clear hpl hpc hps hpz hpx hql hqc hqs hqz hqx hr
            go_upto_region 14 with (first | (go_at_call 40; refine (HPL2.out _).mono ?_; rintro e w3 ⟨rfl, rfl⟩; skip))
            refine RL.start (RL.Aft W) (by kernel_rfl) (RL.Aft.drew (RL.Aft.refl W)) ?_
            refine' RL.takeV (i := 0) (v := _) rfl (by kernel_rfl) (by kernel_rfl) (by kernel_rfl) (fun _ _ _ h => h) (by rfl) ?hk65 ?_
            case hk65 => (intro W hSW; go_simp; try with_reducible rfl)
            (try simp only [Act.put, List.setIfInBounds_toArray, List.set_cons_zero, List.set_cons_succ])
            refine' RL.takeV (i := 1) (v := _) rfl (by kernel_rfl) (by kernel_rfl) (by kernel_rfl) (fun _ _ _ h => h) (by rfl) ?hk66 ?_
            case hk66 => (intro W hSW; have g := (HBA.out.below hSW HBA.out.lt).cell 3 (v := .slice (some ⟨pb2, po, none⟩) pnn pcn) rfl; go_simp; try with_reducible rfl)
            (try simp only [Act.put, List.setIfInBounds_toArray, List.set_cons_zero, List.set_cons_succ])
            refine' RL.takeV (i := 2) (v := _) rfl (by kernel_rfl) (by kernel_rfl) (by kernel_rfl) (fun _ _ _ h => h) (by rfl) ?hk67 ?_
            case hk67 => (intro W hSW; go_simp; try with_reducible rfl)
            (try simp only [Act.put, List.setIfInBounds_toArray, List.set_cons_zero, List.set_cons_succ])
            refine' RL.takeV (i := 3) (v := _) rfl (by kernel_rfl) (by kernel_rfl) (by kernel_rfl) (fun _ _ _ h => h) (by rfl) ?hk68 ?_
            case hk68 => (intro W hSW; go_simp; try with_reducible rfl)
            (try simp only [Act.put, List.setIfInBounds_toArray, List.set_cons_zero, List.set_cons_succ])
            refine' RL.takeV (i := 4) (v := _) rfl (by kernel_rfl) (by kernel_rfl) (by kernel_rfl) (fun _ _ _ h => h) (by rfl) ?hk69 ?_
            case hk69 => (intro W hSW; have g : W.cell? ⟨pb2, po + k, none⟩ = some (.slice pB pm pc) := ((HBW.out.trans (hSW.mono HBW.out.size)).cell (p := ⟨pb2, po + k, none⟩) HPC.out.1).trans HPC.out.2; go_simp; try with_reducible rfl)
            (try simp only [Act.put, List.setIfInBounds_toArray, List.set_cons_zero, List.set_cons_succ])
            refine' RL.takeV (i := 5) (v := _) rfl (by kernel_rfl) (by kernel_rfl) (by kernel_rfl) (fun _ _ _ h => h) (by rfl) ?hk70 ?_
            case hk70 => (intro W hSW; go_simp; try with_reducible rfl)
            (try simp only [Act.put, List.setIfInBounds_toArray, List.set_cons_zero, List.set_cons_succ])
            refine' RL.takeV (i := 6) (v := _) rfl (by kernel_rfl) (by kernel_rfl) (by kernel_rfl) (fun _ _ _ h => h) (by rfl) ?hk71 ?_
            case hk71 => (intro W hSW; have g := (HBB.out.below hSW HBB.out.lt).cell 3 (v := .slice (some ⟨qb2, qo, none⟩) qnn qcn) rfl; go_simp; try with_reducible rfl)
            (try simp only [Act.put, List.setIfInBounds_toArray, List.set_cons_zero, List.set_cons_succ])
            refine' RL.takeV (i := 7) (v := _) rfl (by kernel_rfl) (by kernel_rfl) (by kernel_rfl) (fun _ _ _ h => h) (by rfl) ?hk72 ?_
            case hk72 => (intro W hSW; go_simp; try with_reducible rfl)
            (try simp only [Act.put, List.setIfInBounds_toArray, List.set_cons_zero, List.set_cons_succ])
            refine' RL.takeV (i := 8) (v := _) rfl (by kernel_rfl) (by kernel_rfl) (by kernel_rfl) (fun _ _ _ h => h) (by rfl) ?hk73 ?_
            case hk73 => (intro W hSW; go_simp; try with_reducible rfl)
            (try simp only [Act.put, List.setIfInBounds_toArray, List.set_cons_zero, List.set_cons_succ])
            refine' RL.takeV (i := 9) (v := _) rfl (by kernel_rfl) (by kernel_rfl) (by kernel_rfl) (fun _ _ _ h => h) (by rfl) ?hk74 ?_
            case hk74 => (intro W hSW; have g : W.cell? ⟨qb2, qo + k, none⟩ = some (.slice qB qm qc) := ((HBW.out.trans (hSW.mono HBW.out.size)).cell (p := ⟨qb2, qo + k, none⟩) HQC.out.1).trans HQC.out.2; go_simp; try with_reducible rfl)
            (try simp only [Act.put, List.setIfInBounds_toArray, List.set_cons_zero, List.set_cons_succ])
            refine' RL.takeC (i := 10) (v := .tuple #[.string (r.getD e0), chE a r]) 14 #[.slice pB pm pc, .slice qB qm qc] rfl (by kernel_rfl) (by kernel_rfl) (by kernel_rfl) (fun _ _ _ h => h) (by rfl) ?hk75 ?hc75 ?_
            case hk75 => (intro W; go_simp; try with_reducible rfl)
            case hc75 => (intro W hSW; exact (HCH.out W (HBW.out.trans (hSW.mono HBW.out.size))).mono fun e w' h => ⟨h.1, h.2, RL.Aft.lat hSW h.2⟩)
            (try simp only [Act.put, List.setIfInBounds_toArray, List.set_cons_zero, List.set_cons_succ])
            refine' RL.takeV (i := 11) (v := _) rfl (by kernel_rfl) (by kernel_rfl) (by kernel_rfl) (fun _ _ _ h => h) (by rfl) ?hk76 ?_
            case hk76 => (intro W hSW; go_simp; try with_reducible rfl)
            (try simp only [Act.put, List.setIfInBounds_toArray, List.set_cons_zero, List.set_cons_succ])
            refine' RL.takeV (i := 12) (v := _) rfl (by kernel_rfl) (by kernel_rfl) (by kernel_rfl) (fun _ _ _ h => h) (by rfl) ?hk77 ?_
            case hk77 => (intro W hSW; go_simp; try with_reducible rfl)
            (try simp only [Act.put, List.setIfInBounds_toArray, List.set_cons_zero, List.set_cons_succ])
            refine' RL.takeV (i := 13) (v := _) rfl (by kernel_rfl) (by kernel_rfl) (by kernel_rfl) (fun _ _ _ h => h) (by rfl) ?hk78 ?_
            case hk78 => (intro W hSW; go_simp; try with_reducible rfl)
            (try simp only [Act.put, List.setIfInBounds_toArray, List.set_cons_zero, List.set_cons_succ])
            refine' RL.takeV (i := 14) (v := _) rfl (by kernel_rfl) (by kernel_rfl) (by kernel_rfl) (fun _ _ _ h => h) (by rfl) ?hk79 ?_
            case hk79 => (intro W hSW; go_simp; try with_reducible rfl)
            (try simp only [Act.put, List.setIfInBounds_toArray, List.set_cons_zero, List.set_cons_succ])
            refine' RL.takeV (i := 15) (v := _) rfl (by kernel_rfl) (by kernel_rfl) (by kernel_rfl) (fun _ _ _ h => h) (by rfl) ?hk80 ?_
            case hk80 => (intro W hSW; go_simp; try with_reducible rfl)
            (try simp only [Act.put, List.setIfInBounds_toArray, List.set_cons_zero, List.set_cons_succ])
            refine RL.done (by kernel_rfl) (fun wd hlwd hswd => ?_)
            have HMD := Lib.hid (HM.out.below (show Below W.heap.size W wd from hswd))
            clear hlwd hswd hkp hkq hkp2 hkq2 HM
            have HM := HMD
            clear HMD
            cases r with
            | some x =>
              have HAN := Lib.hid (HA.out.some hk8 HNC.out HRR.out)
              have er : chE a (some x) = .nilIface := rfl
              have eg : (some x : Option ByteArray).getD e0 = x := rfl
              rw [er, eg]
              go_wp2_with (first
                | (refine store_string rfl 9 _ _ rfl rfl rfl Tryd.underlying9 (by kernel_rfl) (HM.out.blk 4 rfl) HCA.out ?_
                   intro V hV hgV
                   have hmv := HM.out.store 4 rfl hV hgV
                   simp only [List.set_cons_zero, List.set_cons_succ] at hmv
                   rw [show (choC out false false).setIfInBounds k (.string x) = choC (out ++ [x]) false false by have h1 := HA.out.1; rw [← h1]; exact choC_set out _ (by omega)] at hmv
                   have HN := Lib.hid hmv
                   clear hV hgV hmv))
              go_roundw
              case rel =>
                first
                  | exact ⟨k + 1, out ++ [x], _, by omega, rfl, by go_num, HAN.out, HN.out⟩
                  | ((repeat apply Exists.intro); refine ⟨?_, rfl⟩; exact ⟨k + 1, out ++ [x], _, by omega, rfl, by go_num, HAN.out, HN.out⟩)
              case measure => (first | (simp [intOf]; done) | (simp [intOf]; omega))
            | none =>
              have HRE := Lib.hid (HR.out.trans (HA.out.none hk8 HNC.out HRR.out))
              have er : chE a (none : Option ByteArray) = .iface 189 (.pointer (some (a 13))) := rfl
              rw [er]
              have HLT := Lib.hid (show w.heap.size + 1 + 1 < wd.heap.size from (HM.out.blk 2 rfl).lt)
              go_wp2_with (first
                | (go_at_call 41; refine (Wrap_any _ nm _).mono ?_; rintro e w5 ⟨rfl, hf, hb⟩; skip; have HFB := Lib.hid hf; have HMx := Lib.hid (HM.out.below hb); clear HM; have HM := HMx; clear HMx; clear hf hb)
                | (refine Cv.store_blk rfl 55 _ _ rfl (w.heap.size + 1 + 1) #[.string ⟨#[]⟩, .string ⟨#[]⟩, .string ⟨#[]⟩, .string ⟨#[]⟩, .string ⟨#[]⟩, .string ⟨#[]⟩, .string ⟨#[]⟩, .string ⟨#[]⟩, .bool false, .bool false] #[.string ⟨#[]⟩, .string ⟨#[]⟩, .string ⟨#[]⟩, .string ⟨#[]⟩, .string ⟨#[]⟩, .string ⟨#[]⟩, .string ⟨#[]⟩, .string ⟨#[]⟩, .bool false, .bool false] 55 rfl rfl (HM.out.blk 2 rfl) (by kernel_rfl) rfl (by simp [Value.oneCell']) ?_
                   intro V hV hgV
                   have HMV := Lib.hid (HM.out.store 2 rfl hV hgV)
                   have HFV := Lib.hid (blk_grown HFB.out hgV (by have := HLT.out; omega))
                   have y0 := hV.cell 0 (v := .string ⟨#[]⟩) rfl
                   have y1 := hV.cell 1 (v := .string ⟨#[]⟩) rfl
                   have y2 := hV.cell 2 (v := .string ⟨#[]⟩) rfl
                   have y3 := hV.cell 3 (v := .string ⟨#[]⟩) rfl
                   have y4 := hV.cell 4 (v := .string ⟨#[]⟩) rfl
                   have y5 := hV.cell 5 (v := .string ⟨#[]⟩) rfl
                   have y6 := hV.cell 6 (v := .string ⟨#[]⟩) rfl
                   have y7 := hV.cell 7 (v := .string ⟨#[]⟩) rfl
                   have y8 := hV.cell 8 (v := .bool false) rfl
                   have y9 := hV.cell 9 (v := .bool false) rfl
                   clear hV hgV))
              refine bodyPost_ret (v := .tuple #[.agg #[.string ⟨#[]⟩, .string ⟨#[]⟩, .string ⟨#[]⟩, .string ⟨#[]⟩, .string ⟨#[]⟩, .string ⟨#[]⟩, .string ⟨#[]⟩, .string ⟨#[]⟩, .bool false, .bool false], .iface 88 (.pointer (some ⟨wd.heap.size, 0, none⟩))]) (by simp [results, Tryd.results24, go_sem, y0, y1, y2, y3, y4, y5, y6, y7, y8, y9]) rfl ?_
              exact AgrPost.fault (by rw [HOKS.out.1, HOKS.out.2]; rfl) HRE.out HMV.out.bel (HNM.out ▸ HFV.out)
        · obtain rfl : k = 8 := by omega
          have HRE := Lib.hid (HR.out.trans HA.out.done)
          obtain ⟨s1, hs1⟩ : ∃ s1, skp ca sa = s1 := ⟨_, rfl⟩
          obtain ⟨s2, hs2⟩ : ∃ s2, skp sa ca = s2 := ⟨_, rfl⟩
          have HGp := Lib.hid (show ∀ W, Below w.heap.size w W → Calls Tryd.prog 42 #[.agg #[.int .i64 pk, .slice pu pnu pcu, .slice ps pns pcs, .slice pn pnn pcn, .slice pb pnb pcb], .agg #[.int .i64 qk, .slice qu qnu qcu, .slice qs qns qcs, .slice qn qnn qcn, .slice qb qnb qcb]] W fun e w' => e = .returned (.bool s1) ∧ Below W.heap.size W w' from fun W hW => by
            have := guessed_any W ca sa _ _ _ _ _ _ _ _ (HPM.out.below hW) (HQM.out.below hW) (by have := HPO.out.2.2.2; omega) (by have := HPO.out.2.2.1; omega) (by have := HQO.out.2.2.1; omega)
            rw [hs1, HPK.out, HQK.out] at this
            exact this)
          have HGq := Lib.hid (show ∀ W, Below w.heap.size w W → Calls Tryd.prog 42 #[.agg #[.int .i64 qk, .slice qu qnu qcu, .slice qs qns qcs, .slice qn qnn qcn, .slice qb qnb qcb], .agg #[.int .i64 pk, .slice pu pnu pcu, .slice ps pns pcs, .slice pn pnn pcn, .slice pb pnb pcb]] W fun e w' => e = .returned (.bool s2) ∧ Below W.heap.size W w' from fun W hW => by
            have := guessed_any W sa ca _ _ _ _ _ _ _ _ (HQM.out.below hW) (HPM.out.below hW) (by have := HQO.out.2.2.2; omega) (by have := HQO.out.2.2.1; omega) (by have := HPO.out.2.2.1; omega)
            rw [hs2, HQK.out, HPK.out] at this
            exact this)
          have HS1 := Lib.hid hs1
          have HS2 := Lib.hid hs2
          have HBA := Lib.hid (HM.out.blk 0 rfl)
          have HBB := Lib.hid (HM.out.blk 1 rfl)
          have HBW := Lib.hid HM.out.bel
          clear hs1 hs2
          go_upto_region 19 with (fail)
          refine RT.start (RL.Aft W) 8 1 (by kernel_rfl) (by decide) rfl (by kernel_rfl) (by kernel_rfl) (RL.Aft.drew (RL.Aft.refl W)) ?_
          refine RT.takeV (i := 0) (v := .agg #[.int .i64 pk, .slice pu pnu pcu, .slice ps pns pcs, .slice pn pnn pcn, .slice pb pnb pcb]) rfl (by kernel_rfl) (by kernel_rfl) (by kernel_rfl) (by decide) (fun _ _ _ h => h) (by rfl) (fun W2 hSW => RT.run_row 32 _ rfl _ rfl _ _ (HBA.out.below hSW HBA.out.lt) Tryd.underlying32 rfl (by kernel_rfl)) ?_
          (try simp only [Act.put, List.setIfInBounds_toArray, List.set_cons_zero, List.set_cons_succ])
          refine RT.takeV (i := 1) (v := .agg #[.int .i64 qk, .slice qu qnu qcu, .slice qs qns qcs, .slice qn qnn qcn, .slice qb qnb qcb]) rfl (by kernel_rfl) (by kernel_rfl) (by kernel_rfl) (by decide) (fun _ _ _ h => h) (by rfl) (fun W2 hSW => RT.run_row 32 _ rfl _ rfl _ _ (HBB.out.below hSW HBB.out.lt) Tryd.underlying32 rfl (by kernel_rfl)) ?_
          (try simp only [Act.put, List.setIfInBounds_toArray, List.set_cons_zero, List.set_cons_succ])
          refine' RT.takeC (i := 2) (v := .bool s1) 42 #[.agg #[.int .i64 pk, .slice pu pnu pcu, .slice ps pns pcs, .slice pn pnn pcn, .slice pb pnb pcb], .agg #[.int .i64 qk, .slice qu qnu qcu, .slice qs qns qcs, .slice qn qnn qcn, .slice qb qnb qcb]] rfl (by kernel_rfl) (by kernel_rfl) (by kernel_rfl) (by decide) (fun _ _ _ h => h) (by rfl) ?hk81 ?hc81 ?_
          case hk81 => (intro W hSW; go_simp; try with_reducible rfl)
          case hc81 => (intro W hSW; exact (HGp.out W (HBW.out.trans (hSW.mono HBW.out.size))).mono fun e w' h => ⟨h.1, h.2, RL.Aft.lat hSW h.2⟩)
          (try simp only [Act.put, List.setIfInBounds_toArray, List.set_cons_zero, List.set_cons_succ])
          refine RT.takeV (i := 3) (v := .agg #[.int .i64 qk, .slice qu qnu qcu, .slice qs qns qcs, .slice qn qnn qcn, .slice qb qnb qcb]) rfl (by kernel_rfl) (by kernel_rfl) (by kernel_rfl) (by decide) (fun _ _ _ h => h) (by rfl) (fun W2 hSW => RT.run_row 32 _ rfl _ rfl _ _ (HBB.out.below hSW HBB.out.lt) Tryd.underlying32 rfl (by kernel_rfl)) ?_
          (try simp only [Act.put, List.setIfInBounds_toArray, List.set_cons_zero, List.set_cons_succ])
          refine RT.takeV (i := 4) (v := .agg #[.int .i64 pk, .slice pu pnu pcu, .slice ps pns pcs, .slice pn pnn pcn, .slice pb pnb pcb]) rfl (by kernel_rfl) (by kernel_rfl) (by kernel_rfl) (by decide) (fun _ _ _ h => h) (by rfl) (fun W2 hSW => RT.run_row 32 _ rfl _ rfl _ _ (HBA.out.below hSW HBA.out.lt) Tryd.underlying32 rfl (by kernel_rfl)) ?_
          (try simp only [Act.put, List.setIfInBounds_toArray, List.set_cons_zero, List.set_cons_succ])
          refine' RT.takeC (i := 5) (v := .bool s2) 42 #[.agg #[.int .i64 qk, .slice qu qnu qcu, .slice qs qns qcs, .slice qn qnn qcn, .slice qb qnb qcb], .agg #[.int .i64 pk, .slice pu pnu pcu, .slice ps pns pcs, .slice pn pnn pcn, .slice pb pnb pcb]] rfl (by kernel_rfl) (by kernel_rfl) (by kernel_rfl) (by decide) (fun _ _ _ h => h) (by rfl) ?hk82 ?hc82 ?_
          case hk82 => (intro W hSW; go_simp; try with_reducible rfl)
          case hc82 => (intro W hSW; exact (HGq.out W (HBW.out.trans (hSW.mono HBW.out.size))).mono fun e w' h => ⟨h.1, h.2, RL.Aft.lat hSW h.2⟩)
          (try simp only [Act.put, List.setIfInBounds_toArray, List.set_cons_zero, List.set_cons_succ])
          refine' RT.takeV (i := 6) (v := _) rfl (by kernel_rfl) (by kernel_rfl) (by kernel_rfl) (by decide) (fun _ _ _ h => h) (by rfl) ?hk83 ?_
          case hk83 => (intro W hSW; go_simp; try with_reducible rfl)
          (try simp only [Act.put, List.setIfInBounds_toArray, List.set_cons_zero, List.set_cons_succ])
          refine' RT.takeV (i := 7) (v := _) rfl (by kernel_rfl) (by kernel_rfl) (by kernel_rfl) (by decide) (fun _ _ _ h => h) (by rfl) ?hk84 ?_
          case hk84 => (intro W hSW; go_simp; try with_reducible rfl)
          (try simp only [Act.put, List.setIfInBounds_toArray, List.set_cons_zero, List.set_cons_succ])
          refine RT.tail (by kernel_rfl) rfl rfl ?_
          intro wd hlwd hswd
          have HMD := Lib.hid (HM.out.below (show Below W.heap.size W wd from hswd))
          clear hlwd hswd HM
          refine store_pair rfl 53 _ _ rfl rfl rfl Tryd.underlying53 (by kernel_rfl) (HMD.out.blk 4 rfl) (j := 8) (v0 := .bool false) (v1 := .bool false) rfl rfl ?_
          intro V hV hgV
          have hmv := HMD.out.store 4 rfl hV hgV
          simp only [List.set_cons_zero, List.set_cons_succ] at hmv
          rw [choC_skip] at hmv
          have HMV := Lib.hid hmv
          have HVB := Lib.hid (HMV.out.blk 4 rfl)
          clear hV hgV hmv
          obtain ⟨cc, hcc⟩ : ∃ cc, choC out s1 s2 = cc := ⟨_, rfl⟩
          have hcs : cc.size = 10 := by rw [← hcc]; rfl
          have hco : cc.all (·.oneCell') = true := by rw [← hcc]; simp [choC, Value.oneCell']
          have q0 : cc[0]? = some (.string (out.getD 0 e0)) := by rw [← hcc]; rfl
          have q1 : cc[1]? = some (.string (out.getD 1 e0)) := by rw [← hcc]; rfl
          have q2 : cc[2]? = some (.string (out.getD 2 e0)) := by rw [← hcc]; rfl
          have q3 : cc[3]? = some (.string (out.getD 3 e0)) := by rw [← hcc]; rfl
          have q4 : cc[4]? = some (.string (out.getD 4 e0)) := by rw [← hcc]; rfl
          have q5 : cc[5]? = some (.string (out.getD 5 e0)) := by rw [← hcc]; rfl
          have q6 : cc[6]? = some (.string (out.getD 6 e0)) := by rw [← hcc]; rfl
          have q7 : cc[7]? = some (.string (out.getD 7 e0)) := by rw [← hcc]; rfl
          have q8 : cc[8]? = some (.bool s1) := by rw [← hcc]; rfl
          have q9 : cc[9]? = some (.bool s2) := by rw [← hcc]; rfl
          have HCC := Lib.hid hcc
          rw [hcc] at HVB
          have HCS := Lib.hid (And.intro hcs hco)
          have HQ2 := Lib.hid (And.intro q0 (And.intro q1 (And.intro q2 (And.intro q3 (And.intro q4 (And.intro q5 (And.intro q6 (And.intro q7 (And.intro q8 q9)))))))))
          clear hcc hcs hco q0 q1 q2 q3 q4 q5 q6 q7 q8 q9
          have isz : (Tryd.prog.info? 55).map (·.size) = some 10 := by kernel_rfl
          have HIZ := Lib.hid isz
          clear isz
          go_wp2_with (first
            | (refine wpList_load_row rfl 55 _ rfl _ rfl _ _ _ _ HVB.out Tryd.underlying55 rfl (by rw [HCS.out.1]; exact HIZ.out) ?_; skip)
            | (refine Cv.store_blk rfl 55 _ _ rfl (w.heap.size + 1 + 1) cc (choC [] false false) 55 rfl rfl (HMV.out.blk 2 rfl) (by rw [HCS.out.1]; exact HIZ.out) (by rw [HCS.out.1]; rfl) HCS.out.2 ?_
               intro U hU hgU
               have HMU := Lib.hid (HMV.out.store 2 rfl hU hgU)
               obtain ⟨q0, q1, q2, q3, q4, q5, q6, q7, q8, q9⟩ := HQ2.out
               have y0 := hU.cell 0 q0
               have y1 := hU.cell 1 q1
               have y2 := hU.cell 2 q2
               have y3 := hU.cell 3 q3
               have y4 := hU.cell 4 q4
               have y5 := hU.cell 5 q5
               have y6 := hU.cell 6 q6
               have y7 := hU.cell 7 q7
               have y8 := hU.cell 8 q8
               have y9 := hU.cell 9 q9
               clear hU hgU q0 q1 q2 q3 q4 q5 q6 q7 q8 q9))
          refine bodyPost_ret (v := .tuple #[.agg #[.string (out.getD 0 e0), .string (out.getD 1 e0), .string (out.getD 2 e0), .string (out.getD 3 e0), .string (out.getD 4 e0), .string (out.getD 5 e0), .string (out.getD 6 e0), .string (out.getD 7 e0), .bool s1, .bool s2], .nilIface]) (by simp [results, Tryd.results24, go_sem, y0, y1, y2, y3, y4, y5, y6, y7, y8, y9]) rfl ?_
          have hfin := AgrPost.ok (a := a) (ca := ca) (sa := sa) (by rw [HOKS.out.1, HOKS.out.2]; rfl) HRE.out HMU.out.bel
          rw [HS1.out, HS2.out] at hfin
          exact hfin
end Go.Proofs.YtjfikbnfabdkoaaDoor.Of
