/- The reference's Agree. -/
import Derived.Test.YtjfikbnfabdkoaaDoorOff5
set_option linter.unusedVariables false
set_option linter.unusedSimpArgs false
namespace Go.Proofs.YtjfikbnfabdkoaaDoor.Of
open Go.RowKit Go.Proofs.YtjfikbnfabdkoaaDoor.Wi Go.Proofs.YtjfikbnfabdkoaaDoor.Ow Go.Proofs.YtjfikbnfabdkoaaDoor.Be Go.Proofs.YtjfikbnfabdkoaaDoor.Mg Go.Proofs.YtjfikbnfabdkoaaDoor.Sp
/-- what the reference's Agree answers -/
structure RagPost (ca sa : Msg) (w : World) (e : Ending) (w' : World) : Prop where
  bel : Below w.heap.size w w'
  no : (okm ca && okm sa) = false → e = .returned (.tuple #[.slice none 0 0, .int .i64 20, .string ⟨#[]⟩])
  yes : (okm ca && okm sa) = true → ∀ out, agr ca.n sa.n 8 [] = (out, none) → ∃ v, e = .returned (.tuple #[v, .int .i64 0, .string ⟨#[]⟩]) ∧ SL w' v (out.map Value.string)
  flt : (okm ca && okm sa) = true → ∀ out i, agr ca.n sa.n 8 [] = (out, some i) → e = .returned (.tuple #[.slice none 0 0, .int .i64 13, .string (whereL.getD i e0)])
theorem RagPost.bad {ca sa : Msg} {w w' : World} (h : (okm ca && okm sa) = false) (hb : Below w.heap.size w w') : RagPost ca sa w (.returned (.tuple #[.slice none 0 0, .int .i64 20, .string ⟨#[]⟩])) w' :=
  ⟨hb, fun _ => rfl, (fun h2 => by rw [h] at h2; cases h2), (fun h2 => by rw [h] at h2; cases h2)⟩
theorem RagPost.fault {ca sa : Msg} {w w' : World} {out : List ByteArray} {i : Nat} {nm : ByteArray} (hn : whereL.getD i e0 = nm) (h : (okm ca && okm sa) = true) (ha : agr ca.n sa.n 8 [] = (out, some i)) (hb : Below w.heap.size w w') : RagPost ca sa w (.returned (.tuple #[.slice none 0 0, .int .i64 13, .string nm])) w' :=
  ⟨hb, (fun h2 => by rw [h] at h2; cases h2), (fun _ out2 h2 => by rw [ha] at h2; cases h2), (fun _ out2 i2 h2 => by rw [ha] at h2; cases h2; rw [hn])⟩
theorem RagPost.ok {ca sa : Msg} {w w' : World} {out : List ByteArray} {v : Value} (h : (okm ca && okm sa) = true) (ha : agr ca.n sa.n 8 [] = (out, none)) (hb : Below w.heap.size w w') (hv : SL w' v (out.map Value.string)) : RagPost ca sa w (.returned (.tuple #[v, .int .i64 0, .string ⟨#[]⟩])) w' :=
  ⟨hb, (fun h2 => by rw [h] at h2; cases h2), (fun _ out2 h2 => by rw [ha] at h2; cases h2; exact ⟨v, rfl, hv⟩), (fun _ out2 i2 h2 => by rw [ha] at h2; cases h2)⟩
theorem snoc_map (out : List ByteArray) (x : ByteArray) : out.map Value.string ++ [Value.string x] = (out ++ [x]).map Value.string := by rw [List.map_append]; rfl
theorem okm_no {m : Msg} (h : m.kind ≠ 20 ∨ checkC m ≠ 0) : okm m = false := by
  unfold okm
  rcases h with h | h
  · simp [h]
  · rw [show decide (checkC m = 0) = false by simpa using h]; exact Bool.and_false _
theorem okm_yes {m : Msg} (h1 : m.kind = 20) (h2 : checkC m = 0) : okm m = true := by unfold okm; rw [h1, h2]; rfl
set_option maxRecDepth 20000 in
set_option maxHeartbeats 16000000 in
theorem RefAgree_any (w : World) (ca sa : Msg) (vu vs vn vb xu xs xn xb : Value) (hp : IsMsg w ca vu vs vn vb) (hq : IsMsg w sa xu xs xn xb) (fp : Fit ca) (fq : Fit sa) :
    Calls Tryd.prog 25 #[.agg (mC ca.kind vu vs vn vb), .agg (mC sa.kind xu xs xn xb)] w (RagPost ca sa w) := by
  have HPM := Lib.hid hp
  have HQM := Lib.hid hq
  obtain ⟨pu, pnu, pcu, rfl, _⟩ := hp.u
  obtain ⟨ps, pns, pcs, rfl, _⟩ := hp.s
  obtain ⟨pvals, ⟨pn, pnn, pcn, rfl, pln, pR, ple, pmx⟩, pvl, pvn⟩ := hp.n
  obtain ⟨pb, pnb, pcb, rfl, plb, pRb, pbe, pbm⟩ := hp.b
  obtain ⟨qu, qnu, qcu, rfl, _⟩ := hq.u
  obtain ⟨qs, qns, qcs, rfl, _⟩ := hq.s
  obtain ⟨qvals, ⟨qn, qnn, qcn, rfl, qln, qR, qle, qmx⟩, qvl, qvn⟩ := hq.n
  obtain ⟨qb, qnb, qcb, rfl, qlb, qRb, qbe, qbm⟩ := hq.b
  have HPV := Lib.hid pvn
  have HQV := Lib.hid qvn
  have HPR := Lib.hid pR
  have HQR := Lib.hid qR
  have HPL := Lib.hid (pvl.symm.trans pln)
  have HQL := Lib.hid (qvl.symm.trans qln)
  obtain ⟨pk, hpk⟩ : ∃ pk, ca.kind = pk := ⟨_, rfl⟩
  obtain ⟨qk, hqk⟩ : ∃ qk, sa.kind = qk := ⟨_, rfl⟩
  obtain ⟨pe, hpe⟩ : ∃ pe, checkC ca = pe := ⟨_, rfl⟩
  obtain ⟨qe, hqe⟩ : ∃ qe, checkC sa = qe := ⟨_, rfl⟩
  rw [hpk, hqk]
  have HCP := Lib.hid (show ∀ W, Below w.heap.size w W → Calls Tryd.prog 29 #[.agg #[.int .i64 pk, .slice pu pnu pcu, .slice ps pns pcs, .slice pn pnn pcn, .slice pb pnb pcb]] W fun e w' => e = .returned (.int .i64 (pe : Int)) ∧ Below W.heap.size W w' from fun W hW => by
    have := RefCheck_any W ca _ _ _ _ (HPM.out.below hW) fp
    rw [hpk, hpe] at this
    exact this)
  have HCQ := Lib.hid (show ∀ W, Below w.heap.size w W → Calls Tryd.prog 29 #[.agg #[.int .i64 qk, .slice qu qnu qcu, .slice qs qns qcs, .slice qn qnn qcn, .slice qb qnb qcb]] W fun e w' => e = .returned (.int .i64 (qe : Int)) ∧ Below W.heap.size W w' from fun W hW => by
    have := RefCheck_any W sa _ _ _ _ (HQM.out.below hW) fq
    rw [hqk, hqe] at this
    exact this)
  have HPK := Lib.hid (And.intro hpk hpe)
  have HQK := Lib.hid (And.intro hqk hqe)
  unfold mC
  clear hp hq fp fq hpk hqk hpe hqe pvn qvn pR qR pvl qvl pln qln ple qle pbe qbe pRb qRb plb qlb pmx qmx pbm qbm
  have HX0 := Lib.hid (show Mem w [] ((w.alloc (.cells #[.int .i64 pk, .slice pu pnu pcu, .slice ps pns pcs, .slice pn pnn pcn, .slice pb pnb pcb] 36)).alloc (.cells #[.int .i64 qk, .slice qu qnu qcu, .slice qs qns qcs, .slice qn qnn qcn, .slice qb qnb qcb] 36)) [Sp.blk w.heap.size 36 #[.int .i64 pk, .slice pu pnu pcu, .slice ps pns pcs, .slice pn pnn pcn, .slice pb pnb pcb], Sp.blk (w.heap.size + 1) 36 #[.int .i64 qk, .slice qu qnu qcu, .slice qs qns qcs, .slice qn qnn qcn, .slice qb qnb qcb]] by
    have h := ((Mem.start w).alloc #[.int .i64 pk, .slice pu pnu pcu, .slice ps pns pcs, .slice pn pnn pcn, .slice pb pnb pcb] 36).alloc #[.int .i64 qk, .slice qu qnu qcu, .slice qs qns qcs, .slice qn qnn qcn, .slice qb qnb qcb] 36
    rw [World.size_alloc] at h
    exact h)
  by_cases h1 : pk = 20
  · by_cases h2 : qk = 20
    · by_cases h3 : pe = 0
      · by_cases h4 : qe = 0
        · have HOKS := Lib.hid (show okm ca = true ∧ okm sa = true from ⟨okm_yes (HPK.out.1.trans h1) (HPK.out.2.trans h3), okm_yes (HQK.out.1.trans h2) (HQK.out.2.trans h4)⟩)
          subst h1; subst h2; subst h3; subst h4
          have HPO := Lib.hid (okm_len HOKS.out.1)
          have HQO := Lib.hid (okm_len HOKS.out.2)
          obtain ⟨R, hR⟩ : ∃ R, agr ca.n sa.n 8 [] = R := ⟨_, rfl⟩
          have HR := Lib.hid hR
          clear hR
          have p00 := (HX0.out.blk 0 rfl).cell 0 (v := .int .i64 20) rfl
          have p01 := (HX0.out.blk 0 rfl).cell 1 (v := .slice pu pnu pcu) rfl
          have p02 := (HX0.out.blk 0 rfl).cell 2 (v := .slice ps pns pcs) rfl
          have p03 := (HX0.out.blk 0 rfl).cell 3 (v := .slice pn pnn pcn) rfl
          have p04 := (HX0.out.blk 0 rfl).cell 4 (v := .slice pb pnb pcb) rfl
          have q10 := (HX0.out.blk 1 rfl).cell 0 (v := .int .i64 20) rfl
          have q11 := (HX0.out.blk 1 rfl).cell 1 (v := .slice qu qnu qcu) rfl
          have q12 := (HX0.out.blk 1 rfl).cell 2 (v := .slice qs qns qcs) rfl
          have q13 := (HX0.out.blk 1 rfl).cell 3 (v := .slice qn qnn qcn) rfl
          have q14 := (HX0.out.blk 1 rfl).cell 4 (v := .slice qb qnb qcb) rfl
          go_enter Tryd.func25, Tryd.ntmps25
          have tok := True.intro
          go_upto_region 3 with (first | (have _t := tok; go_at_call 29; refine (HCP.out _ HX0.out.bel).mono ?_; rintro e w1 ⟨rfl, hb⟩; clear _t tok; have hm1 := HX0.out.below hb; have s10 := (hm1.blk 1 rfl).cell 0 (v := .int .i64 20) rfl; have s11 := (hm1.blk 1 rfl).cell 1 (v := .slice qu qnu qcu) rfl; have s12 := (hm1.blk 1 rfl).cell 2 (v := .slice qs qns qcs) rfl; have s13 := (hm1.blk 1 rfl).cell 3 (v := .slice qn qnn qcn) rfl; have s14 := (hm1.blk 1 rfl).cell 4 (v := .slice qb qnb qcb) rfl; have HX1 := Lib.hid hm1; clear hb hm1) | (go_at_call 29; refine (HCQ.out _ HX1.out.bel).mono ?_; rintro e w2 ⟨rfl, hb⟩; skip; have HX2 := Lib.hid (HX1.out.below hb); clear hb))
          clear p00 q10 s10 p01 q11 s11 p02 q12 s12 p03 q13 s13 p04 q14 s14
          go_upto_region 5 with (fail)
          refine wp_nameO (fun Y hY => ?_)
          have HY := Lib.hid (show Mem w [] Y [Sp.blk w.heap.size 36 #[.int .i64 20, .slice pu pnu pcu, .slice ps pns pcs, .slice pn pnn pcn, .slice pb pnb pcb], Sp.blk (w.heap.size + 1) 36 #[.int .i64 20, .slice qu qnu qcu, .slice qs qns qcs, .slice qn qnn qcn, .slice qb qnb qcb], Sp.blk (w2.heap.size + 1) 9 (whereL.map Value.string).toArray, own 9 (.slice (some ⟨w2.heap.size, 0, none⟩) 0 0) []] by
            rw [hY]
            have h1 := HX2.out.newOwn (E := 9) (Owns.new w2 w2.heap.size 9 [] (Nat.le_refl _) (by decide)) ((Below.refl _ _).alloc (Nat.le_refl _) _)
            have h2 := h1.alloc #[.string ⟨#[107, 101, 120]⟩, .string ⟨#[104, 111, 115, 116]⟩, .string ⟨#[99, 105, 112, 104, 101, 114, 32, 48]⟩, .string ⟨#[99, 105, 112, 104, 101, 114, 32, 49]⟩, .string ⟨#[109, 97, 99, 32, 48]⟩, .string ⟨#[109, 97, 99, 32, 49]⟩, .string ⟨#[122, 105, 112, 32, 48]⟩, .string ⟨#[122, 105, 112, 32, 49]⟩] 9
            simp only [World.size_alloc, List.cons_append, List.nil_append] at h2
            exact h2.perm (((List.Perm.swap _ _ _).cons _).cons _))
          clear hY
          generalize w2.heap.size + 1 = P at *
          skip
          obtain ⟨WA, hWA⟩ : ∃ WA, (whereL.map Value.string).toArray = WA := ⟨_, rfl⟩
          have HWA := Lib.hid (show ∀ k, k < 8 → WA[k]? = some (.string (whereL.getD k e0)) from fun k hk => by
            rw [← hWA]
            match k, hk with
            | 0, _ => rfl
            | 1, _ => rfl
            | 2, _ => rfl
            | 3, _ => rfl
            | 4, _ => rfl
            | 5, _ => rfl
            | 6, _ => rfl
            | 7, _ => rfl
            | k + 8, h => exact absurd h (by omega))
          rw [hWA] at HY
          clear hWA
          go_wp2_with fail
          go_loopw [7, 33] (fun v i wr => ∃ (k : Nat) (out : List ByteArray) (u : Value) (W : World), k ≤ 8 ∧ u = v ∧ W = wr ∧ i = .int .i64 k ∧ AgR ca sa R out k ∧ Mem w [] W [Sp.blk w.heap.size 36 #[.int .i64 20, .slice pu pnu pcu, .slice ps pns pcs, .slice pn pnn pcn, .slice pb pnb pcb], Sp.blk (w.heap.size + 1) 36 #[.int .i64 20, .slice qu qnu qcu, .slice qs qns qcs, .slice qn qnn qcn, .slice qb qnb qcb], Sp.blk P 9 WA, own 9 u (out.map Value.string)]) (fun _ i _ => 9 - (intOf i).toNat)
          case atStart => exact ⟨0, [], _, _, by omega, rfl, rfl, rfl, ⟨rfl, HR.out⟩, HY.out⟩
          case round =>
            obtain ⟨k, out, u, W, hk, rfl, rfl, rfl, hag, hm⟩ := hrel
            have HM := Lib.hid hm
            have HA := Lib.hid hag
            clear hm hag HY
            by_cases hk8 : k < 8
            · have hki : (k : Int) < 8 := by omega
              obtain ⟨nm, hnm⟩ : ∃ nm, whereL.getD k e0 = nm := ⟨_, rfl⟩
              have kc0 := (HM.out.blk 2 rfl).cell k (HWA.out k hk8)
              rw [hnm] at kc0
              have HNM := Lib.hid hnm
              clear hnm
              by_cases hk4 : k = 4 ∨ k = 5
              · obtain ⟨y, hy⟩ : ∃ y, out.getD (k - 2) e0 = y := ⟨_, rfl⟩
                have hgy : (out.map Value.string)[k - 2]? = some (.string y) := by
                  have h1 := HA.out.1
                  rw [List.getElem?_map, List.getElem?_eq_getElem (by omega)]
                  rw [List.getD, List.getElem?_eq_getElem (by omega)] at hy
                  simp only [Option.getD_some] at hy
                  rw [← hy]; rfl
                obtain ⟨uA, uc, hue, huR, hul⟩ := (HM.out.own 3 rfl).form
                rw [List.length_map, HA.out.1] at hue hul
                obtain ⟨ub, uo, rfl, hult, cy⟩ := huR (k - 2) _ hgy
                subst hue
                have HY := Lib.hid hy
                clear hy hgy huR hult hul
                by_cases hyc : y = cipherB
                · have HAN := Lib.hid (HA.out.imp hk4 (by rw [HY.out]; exact hyc))
                  have hyl : y.toList = [99, 104, 97, 99, 104, 97, 50, 48, 45, 112, 111, 108, 121, 49, 51, 48, 53] := by rw [hyc, ByteArray.toList_eq]; rfl
                  clear hyc
                  rcases hk4 with rfl | rfl
                  · go_wp2_with (first
                      | (at_builtin; refine app1 rfl _ _ _ rfl Tryd.underlying23 infoStr rfl (by decide) (HM.out.own 3 rfl) rfl rfl (by simp [Value.oneCell']) (by rw [List.length_map, HA.out.1]; omega) (Nat.zero_le _) ?_
                         intro v9 w6 ho hg hat
                         have hm6 := HM.out.app 3 rfl ho hg (hat.imp id fun e => ⟨_, e, Nat.le_succ _⟩)
                         simp only [List.set_cons_succ, List.set_cons_zero] at hm6
                         rw [snoc_map out ⟨#[105, 109, 112, 108, 105, 101, 100]⟩] at hm6
                         have HN := Lib.hid hm6
                         clear ho hg hat hm6))
                    go_roundw
                    case rel =>
                      first
                        | exact ⟨5, out ++ [impliedB], _, _, by omega, rfl, rfl, rfl, HAN.out, HN.out⟩
                        | ((repeat apply Exists.intro); refine ⟨?_, rfl⟩; exact ⟨5, out ++ [impliedB], _, _, by omega, rfl, rfl, rfl, HAN.out, HN.out⟩)
                    case measure => (first | (simp [intOf]; done) | (simp [intOf]; omega))
                  · go_wp2_with (first
                      | (at_builtin; refine app1 rfl _ _ _ rfl Tryd.underlying23 infoStr rfl (by decide) (HM.out.own 3 rfl) rfl rfl (by simp [Value.oneCell']) (by rw [List.length_map, HA.out.1]; omega) (Nat.zero_le _) ?_
                         intro v9 w6 ho hg hat
                         have hm6 := HM.out.app 3 rfl ho hg (hat.imp id fun e => ⟨_, e, Nat.le_succ _⟩)
                         simp only [List.set_cons_succ, List.set_cons_zero] at hm6
                         rw [snoc_map out ⟨#[105, 109, 112, 108, 105, 101, 100]⟩] at hm6
                         have HN := Lib.hid hm6
                         clear ho hg hat hm6))
                    go_roundw
                    case rel =>
                      first
                        | exact ⟨6, out ++ [impliedB], _, _, by omega, rfl, rfl, rfl, HAN.out, HN.out⟩
                        | ((repeat apply Exists.intro); refine ⟨?_, rfl⟩; exact ⟨6, out ++ [impliedB], _, _, by omega, rfl, rfl, rfl, HAN.out, HN.out⟩)
                    case measure => (first | (simp [intOf]; done) | (simp [intOf]; omega))
                · have HNC := Lib.hid (show NoC out k from fun h => hyc (HY.out.symm.trans h.2))
                  have hyn : (y.toList == [99, 104, 97, 99, 104, 97, 50, 48, 45, 112, 111, 108, 121, 49, 51, 48, 53]) = false := by have := str_ne hyc; rw [show cipherB.toList = [99, 104, 97, 99, 104, 97, 50, 48, 45, 112, 111, 108, 121, 49, 51, 48, 53] by rw [ByteArray.toList_eq]; rfl] at this; exact this
                  have hyn2 : ¬ y.toList = [99, 104, 97, 99, 104, 97, 50, 48, 45, 112, 111, 108, 121, 49, 51, 48, 53] := by simpa using hyn
                  clear hyc
                  rcases hk4 with rfl | rfl
                  · skip
                    obtain ⟨pb2, po, pB, pm, pc, rfl, hpl, hpc, hps, hpz, hpx⟩ := nth_list HPR.out HPV.out 4 (by have := HPO.out.2.2.1; omega)
                    obtain ⟨qb2, qo, qB, qm, qc, rfl, hql, hqc, hqs, hqz, hqx⟩ := nth_list HQR.out HQV.out 4 (by have := HQO.out.2.2.1; omega)
                    have hkp : (4 : Int) < pnn := by have := HPO.out.2.2.1; have := HPL.out; omega
                    have hkq : (4 : Int) < qnn := by have := HQO.out.2.2.1; have := HQL.out; omega
                    have hkp2 : 4 < pnn := by omega
                    have hkq2 : 4 < qnn := by omega
                    have HPC := Lib.hid (And.intro hpl hpc)
                    have HQC := Lib.hid (And.intro hql hqc)
                    obtain ⟨r, hr⟩ : ∃ r, chooseL (ca.n.getD 4 []) (sa.n.getD 4 []) = r := ⟨_, rfl⟩
                    have HCH := Lib.hid (show ∀ W, Below w.heap.size w W → Calls Tryd.prog 15 #[.slice pB pm pc, .slice qB qm qc] W fun e w' => e = .returned (.tuple #[.string (r.getD e0), .bool r.isSome]) ∧ W = w' from fun W hW => by
                      have := RefChoose_any W _ _ _ _ (hps.below hW) (hqs.below hW)
                      rw [hr] at this
                      exact this)
                    have HRR := Lib.hid hr
                    have HBA := Lib.hid (HM.out.blk 0 rfl)
                    have HBB := Lib.hid (HM.out.blk 1 rfl)
                    have HBW := Lib.hid HM.out.bel
                    clear hpl hpc hps hpz hpx hql hqc hqs hqz hqx hr
                    go_upto_region 9 with (fail)
                    refine RL.start (RL.Aft W) (by kernel_rfl) (RL.Aft.drew (RL.Aft.refl W)) ?_
                    refine' RL.takeV (i := 0) (v := _) rfl (by kernel_rfl) (by kernel_rfl) (by kernel_rfl) (fun _ _ _ h => h) (by rfl) ?hk29 ?_
                    case hk29 => (intro W hSW; go_simp; try with_reducible rfl)
                    (try simp only [Act.put, List.setIfInBounds_toArray, List.set_cons_zero, List.set_cons_succ])
                    refine' RL.takeV (i := 1) (v := _) rfl (by kernel_rfl) (by kernel_rfl) (by kernel_rfl) (fun _ _ _ h => h) (by rfl) ?hk30 ?_
                    case hk30 => (intro W hSW; have g := (HBA.out.below hSW HBA.out.lt).cell 3 (v := .slice (some ⟨pb2, po, none⟩) pnn pcn) rfl; go_simp; try with_reducible rfl)
                    (try simp only [Act.put, List.setIfInBounds_toArray, List.set_cons_zero, List.set_cons_succ])
                    refine' RL.takeV (i := 2) (v := _) rfl (by kernel_rfl) (by kernel_rfl) (by kernel_rfl) (fun _ _ _ h => h) (by rfl) ?hk31 ?_
                    case hk31 => (intro W hSW; go_simp; try with_reducible rfl)
                    (try simp only [Act.put, List.setIfInBounds_toArray, List.set_cons_zero, List.set_cons_succ])
                    refine' RL.takeV (i := 3) (v := _) rfl (by kernel_rfl) (by kernel_rfl) (by kernel_rfl) (fun _ _ _ h => h) (by rfl) ?hk32 ?_
                    case hk32 => (intro W hSW; go_simp; try with_reducible rfl)
                    (try simp only [Act.put, List.setIfInBounds_toArray, List.set_cons_zero, List.set_cons_succ])
                    refine' RL.takeV (i := 4) (v := _) rfl (by kernel_rfl) (by kernel_rfl) (by kernel_rfl) (fun _ _ _ h => h) (by rfl) ?hk33 ?_
                    case hk33 => (intro W hSW; have g : W.cell? ⟨pb2, po + 4, none⟩ = some (.slice pB pm pc) := ((HBW.out.trans (hSW.mono HBW.out.size)).cell (p := ⟨pb2, po + 4, none⟩) HPC.out.1).trans HPC.out.2; go_simp; try with_reducible rfl)
                    (try simp only [Act.put, List.setIfInBounds_toArray, List.set_cons_zero, List.set_cons_succ])
                    refine' RL.takeV (i := 5) (v := _) rfl (by kernel_rfl) (by kernel_rfl) (by kernel_rfl) (fun _ _ _ h => h) (by rfl) ?hk34 ?_
                    case hk34 => (intro W hSW; go_simp; try with_reducible rfl)
                    (try simp only [Act.put, List.setIfInBounds_toArray, List.set_cons_zero, List.set_cons_succ])
                    refine' RL.takeV (i := 6) (v := _) rfl (by kernel_rfl) (by kernel_rfl) (by kernel_rfl) (fun _ _ _ h => h) (by rfl) ?hk35 ?_
                    case hk35 => (intro W hSW; have g := (HBB.out.below hSW HBB.out.lt).cell 3 (v := .slice (some ⟨qb2, qo, none⟩) qnn qcn) rfl; go_simp; try with_reducible rfl)
                    (try simp only [Act.put, List.setIfInBounds_toArray, List.set_cons_zero, List.set_cons_succ])
                    refine' RL.takeV (i := 7) (v := _) rfl (by kernel_rfl) (by kernel_rfl) (by kernel_rfl) (fun _ _ _ h => h) (by rfl) ?hk36 ?_
                    case hk36 => (intro W hSW; go_simp; try with_reducible rfl)
                    (try simp only [Act.put, List.setIfInBounds_toArray, List.set_cons_zero, List.set_cons_succ])
                    refine' RL.takeV (i := 8) (v := _) rfl (by kernel_rfl) (by kernel_rfl) (by kernel_rfl) (fun _ _ _ h => h) (by rfl) ?hk37 ?_
                    case hk37 => (intro W hSW; go_simp; try with_reducible rfl)
                    (try simp only [Act.put, List.setIfInBounds_toArray, List.set_cons_zero, List.set_cons_succ])
                    refine' RL.takeV (i := 9) (v := _) rfl (by kernel_rfl) (by kernel_rfl) (by kernel_rfl) (fun _ _ _ h => h) (by rfl) ?hk38 ?_
                    case hk38 => (intro W hSW; have g : W.cell? ⟨qb2, qo + 4, none⟩ = some (.slice qB qm qc) := ((HBW.out.trans (hSW.mono HBW.out.size)).cell (p := ⟨qb2, qo + 4, none⟩) HQC.out.1).trans HQC.out.2; go_simp; try with_reducible rfl)
                    (try simp only [Act.put, List.setIfInBounds_toArray, List.set_cons_zero, List.set_cons_succ])
                    refine' RL.takeC (i := 10) (v := .tuple #[.string (r.getD e0), .bool r.isSome]) 15 #[.slice pB pm pc, .slice qB qm qc] rfl (by kernel_rfl) (by kernel_rfl) (by kernel_rfl) (fun _ _ _ h => h) (by rfl) ?hk39 ?hc39 ?_
                    case hk39 => (intro W; go_simp; try with_reducible rfl)
                    case hc39 => (intro W hSW; exact (HCH.out W (HBW.out.trans (hSW.mono HBW.out.size))).mono fun e w' h => ⟨h.1, h.2 ▸ RL.Lat.refl _, h.2 ▸ hSW⟩)
                    (try simp only [Act.put, List.setIfInBounds_toArray, List.set_cons_zero, List.set_cons_succ])
                    refine' RL.takeV (i := 11) (v := _) rfl (by kernel_rfl) (by kernel_rfl) (by kernel_rfl) (fun _ _ _ h => h) (by rfl) ?hk40 ?_
                    case hk40 => (intro W hSW; go_simp; try with_reducible rfl)
                    (try simp only [Act.put, List.setIfInBounds_toArray, List.set_cons_zero, List.set_cons_succ])
                    refine' RL.takeV (i := 12) (v := _) rfl (by kernel_rfl) (by kernel_rfl) (by kernel_rfl) (fun _ _ _ h => h) (by rfl) ?hk41 ?_
                    case hk41 => (intro W hSW; go_simp; try with_reducible rfl)
                    (try simp only [Act.put, List.setIfInBounds_toArray, List.set_cons_zero, List.set_cons_succ])
                    refine' RL.takeV (i := 13) (v := _) rfl (by kernel_rfl) (by kernel_rfl) (by kernel_rfl) (fun _ _ _ h => h) (by rfl) ?hk42 ?_
                    case hk42 => (intro W hSW; go_simp; try with_reducible rfl)
                    (try simp only [Act.put, List.setIfInBounds_toArray, List.set_cons_zero, List.set_cons_succ])
                    refine' RL.takeV (i := 14) (v := _) rfl (by kernel_rfl) (by kernel_rfl) (by kernel_rfl) (fun _ _ _ h => h) (by rfl) ?hk43 ?_
                    case hk43 => (intro W hSW; go_simp; try with_reducible rfl)
                    (try simp only [Act.put, List.setIfInBounds_toArray, List.set_cons_zero, List.set_cons_succ])
                    refine' RL.takeV (i := 15) (v := _) rfl (by kernel_rfl) (by kernel_rfl) (by kernel_rfl) (fun _ _ _ h => h) (by rfl) ?hk44 ?_
                    case hk44 => (intro W hSW; go_simp; try with_reducible rfl)
                    (try simp only [Act.put, List.setIfInBounds_toArray, List.set_cons_zero, List.set_cons_succ])
                    refine RL.done (by kernel_rfl) (fun wd hlwd hswd => ?_)
                    have HMD := Lib.hid (HM.out.below (show Below W.heap.size W wd from hswd))
                    clear hlwd hswd hkp hkq hkp2 hkq2 HM
                    have HM := HMD
                    clear HMD
                    cases r with
                    | some x =>
                      have HAN := Lib.hid (HA.out.some hk8 HNC.out HRR.out)
                      have er : (some x : Option ByteArray).isSome = true := rfl
                      have eg : (some x : Option ByteArray).getD e0 = x := rfl
                      rw [er, eg]
                      go_wp2_with (first
                        | (at_builtin; refine app1 rfl _ _ _ rfl Tryd.underlying23 infoStr rfl (by decide) (HM.out.own 3 rfl) rfl rfl (by simp [Value.oneCell']) (by rw [List.length_map, HA.out.1]; omega) (Nat.zero_le _) ?_
                           intro v9 w6 ho hg hat
                           have hm6 := HM.out.app 3 rfl ho hg (hat.imp id fun e => ⟨_, e, Nat.le_succ _⟩)
                           simp only [List.set_cons_succ, List.set_cons_zero] at hm6
                           rw [snoc_map out x] at hm6
                           have HN := Lib.hid hm6
                           clear ho hg hat hm6))
                      go_roundw
                      case rel =>
                        first
                          | exact ⟨5, out ++ [x], _, _, by omega, rfl, rfl, rfl, HAN.out, HN.out⟩
                          | ((repeat apply Exists.intro); refine ⟨?_, rfl⟩; exact ⟨5, out ++ [x], _, _, by omega, rfl, rfl, rfl, HAN.out, HN.out⟩)
                      case measure => (first | (simp [intOf]; done) | (simp [intOf]; omega))
                    | none =>
                      have HRE := Lib.hid (HR.out.trans (HA.out.none hk8 HNC.out HRR.out))
                      have er : (none : Option ByteArray).isSome = false := rfl
                      rw [er]
                      go_wp2_with fail
                      go_ret3
                      exact RagPost.fault HNM.out (by rw [HOKS.out.1, HOKS.out.2]; rfl) HRE.out HM.out.bel
                  · skip
                    obtain ⟨pb2, po, pB, pm, pc, rfl, hpl, hpc, hps, hpz, hpx⟩ := nth_list HPR.out HPV.out 5 (by have := HPO.out.2.2.1; omega)
                    obtain ⟨qb2, qo, qB, qm, qc, rfl, hql, hqc, hqs, hqz, hqx⟩ := nth_list HQR.out HQV.out 5 (by have := HQO.out.2.2.1; omega)
                    have hkp : (5 : Int) < pnn := by have := HPO.out.2.2.1; have := HPL.out; omega
                    have hkq : (5 : Int) < qnn := by have := HQO.out.2.2.1; have := HQL.out; omega
                    have hkp2 : 5 < pnn := by omega
                    have hkq2 : 5 < qnn := by omega
                    have HPC := Lib.hid (And.intro hpl hpc)
                    have HQC := Lib.hid (And.intro hql hqc)
                    obtain ⟨r, hr⟩ : ∃ r, chooseL (ca.n.getD 5 []) (sa.n.getD 5 []) = r := ⟨_, rfl⟩
                    have HCH := Lib.hid (show ∀ W, Below w.heap.size w W → Calls Tryd.prog 15 #[.slice pB pm pc, .slice qB qm qc] W fun e w' => e = .returned (.tuple #[.string (r.getD e0), .bool r.isSome]) ∧ W = w' from fun W hW => by
                      have := RefChoose_any W _ _ _ _ (hps.below hW) (hqs.below hW)
                      rw [hr] at this
                      exact this)
                    have HRR := Lib.hid hr
                    have HBA := Lib.hid (HM.out.blk 0 rfl)
                    have HBB := Lib.hid (HM.out.blk 1 rfl)
                    have HBW := Lib.hid HM.out.bel
                    clear hpl hpc hps hpz hpx hql hqc hqs hqz hqx hr
                    go_upto_region 9 with (fail)
                    refine RL.start (RL.Aft W) (by kernel_rfl) (RL.Aft.drew (RL.Aft.refl W)) ?_
                    refine' RL.takeV (i := 0) (v := _) rfl (by kernel_rfl) (by kernel_rfl) (by kernel_rfl) (fun _ _ _ h => h) (by rfl) ?hk45 ?_
                    case hk45 => (intro W hSW; go_simp; try with_reducible rfl)
                    (try simp only [Act.put, List.setIfInBounds_toArray, List.set_cons_zero, List.set_cons_succ])
                    refine' RL.takeV (i := 1) (v := _) rfl (by kernel_rfl) (by kernel_rfl) (by kernel_rfl) (fun _ _ _ h => h) (by rfl) ?hk46 ?_
                    case hk46 => (intro W hSW; have g := (HBA.out.below hSW HBA.out.lt).cell 3 (v := .slice (some ⟨pb2, po, none⟩) pnn pcn) rfl; go_simp; try with_reducible rfl)
                    (try simp only [Act.put, List.setIfInBounds_toArray, List.set_cons_zero, List.set_cons_succ])
                    refine' RL.takeV (i := 2) (v := _) rfl (by kernel_rfl) (by kernel_rfl) (by kernel_rfl) (fun _ _ _ h => h) (by rfl) ?hk47 ?_
                    case hk47 => (intro W hSW; go_simp; try with_reducible rfl)
                    (try simp only [Act.put, List.setIfInBounds_toArray, List.set_cons_zero, List.set_cons_succ])
                    refine' RL.takeV (i := 3) (v := _) rfl (by kernel_rfl) (by kernel_rfl) (by kernel_rfl) (fun _ _ _ h => h) (by rfl) ?hk48 ?_
                    case hk48 => (intro W hSW; go_simp; try with_reducible rfl)
                    (try simp only [Act.put, List.setIfInBounds_toArray, List.set_cons_zero, List.set_cons_succ])
                    refine' RL.takeV (i := 4) (v := _) rfl (by kernel_rfl) (by kernel_rfl) (by kernel_rfl) (fun _ _ _ h => h) (by rfl) ?hk49 ?_
                    case hk49 => (intro W hSW; have g : W.cell? ⟨pb2, po + 5, none⟩ = some (.slice pB pm pc) := ((HBW.out.trans (hSW.mono HBW.out.size)).cell (p := ⟨pb2, po + 5, none⟩) HPC.out.1).trans HPC.out.2; go_simp; try with_reducible rfl)
                    (try simp only [Act.put, List.setIfInBounds_toArray, List.set_cons_zero, List.set_cons_succ])
                    refine' RL.takeV (i := 5) (v := _) rfl (by kernel_rfl) (by kernel_rfl) (by kernel_rfl) (fun _ _ _ h => h) (by rfl) ?hk50 ?_
                    case hk50 => (intro W hSW; go_simp; try with_reducible rfl)
                    (try simp only [Act.put, List.setIfInBounds_toArray, List.set_cons_zero, List.set_cons_succ])
                    refine' RL.takeV (i := 6) (v := _) rfl (by kernel_rfl) (by kernel_rfl) (by kernel_rfl) (fun _ _ _ h => h) (by rfl) ?hk51 ?_
                    case hk51 => (intro W hSW; have g := (HBB.out.below hSW HBB.out.lt).cell 3 (v := .slice (some ⟨qb2, qo, none⟩) qnn qcn) rfl; go_simp; try with_reducible rfl)
                    (try simp only [Act.put, List.setIfInBounds_toArray, List.set_cons_zero, List.set_cons_succ])
                    refine' RL.takeV (i := 7) (v := _) rfl (by kernel_rfl) (by kernel_rfl) (by kernel_rfl) (fun _ _ _ h => h) (by rfl) ?hk52 ?_
                    case hk52 => (intro W hSW; go_simp; try with_reducible rfl)
                    (try simp only [Act.put, List.setIfInBounds_toArray, List.set_cons_zero, List.set_cons_succ])
                    refine' RL.takeV (i := 8) (v := _) rfl (by kernel_rfl) (by kernel_rfl) (by kernel_rfl) (fun _ _ _ h => h) (by rfl) ?hk53 ?_
                    case hk53 => (intro W hSW; go_simp; try with_reducible rfl)
                    (try simp only [Act.put, List.setIfInBounds_toArray, List.set_cons_zero, List.set_cons_succ])
                    refine' RL.takeV (i := 9) (v := _) rfl (by kernel_rfl) (by kernel_rfl) (by kernel_rfl) (fun _ _ _ h => h) (by rfl) ?hk54 ?_
                    case hk54 => (intro W hSW; have g : W.cell? ⟨qb2, qo + 5, none⟩ = some (.slice qB qm qc) := ((HBW.out.trans (hSW.mono HBW.out.size)).cell (p := ⟨qb2, qo + 5, none⟩) HQC.out.1).trans HQC.out.2; go_simp; try with_reducible rfl)
                    (try simp only [Act.put, List.setIfInBounds_toArray, List.set_cons_zero, List.set_cons_succ])
                    refine' RL.takeC (i := 10) (v := .tuple #[.string (r.getD e0), .bool r.isSome]) 15 #[.slice pB pm pc, .slice qB qm qc] rfl (by kernel_rfl) (by kernel_rfl) (by kernel_rfl) (fun _ _ _ h => h) (by rfl) ?hk55 ?hc55 ?_
                    case hk55 => (intro W; go_simp; try with_reducible rfl)
                    case hc55 => (intro W hSW; exact (HCH.out W (HBW.out.trans (hSW.mono HBW.out.size))).mono fun e w' h => ⟨h.1, h.2 ▸ RL.Lat.refl _, h.2 ▸ hSW⟩)
                    (try simp only [Act.put, List.setIfInBounds_toArray, List.set_cons_zero, List.set_cons_succ])
                    refine' RL.takeV (i := 11) (v := _) rfl (by kernel_rfl) (by kernel_rfl) (by kernel_rfl) (fun _ _ _ h => h) (by rfl) ?hk56 ?_
                    case hk56 => (intro W hSW; go_simp; try with_reducible rfl)
                    (try simp only [Act.put, List.setIfInBounds_toArray, List.set_cons_zero, List.set_cons_succ])
                    refine' RL.takeV (i := 12) (v := _) rfl (by kernel_rfl) (by kernel_rfl) (by kernel_rfl) (fun _ _ _ h => h) (by rfl) ?hk57 ?_
                    case hk57 => (intro W hSW; go_simp; try with_reducible rfl)
                    (try simp only [Act.put, List.setIfInBounds_toArray, List.set_cons_zero, List.set_cons_succ])
                    refine' RL.takeV (i := 13) (v := _) rfl (by kernel_rfl) (by kernel_rfl) (by kernel_rfl) (fun _ _ _ h => h) (by rfl) ?hk58 ?_
                    case hk58 => (intro W hSW; go_simp; try with_reducible rfl)
                    (try simp only [Act.put, List.setIfInBounds_toArray, List.set_cons_zero, List.set_cons_succ])
                    refine' RL.takeV (i := 14) (v := _) rfl (by kernel_rfl) (by kernel_rfl) (by kernel_rfl) (fun _ _ _ h => h) (by rfl) ?hk59 ?_
                    case hk59 => (intro W hSW; go_simp; try with_reducible rfl)
                    (try simp only [Act.put, List.setIfInBounds_toArray, List.set_cons_zero, List.set_cons_succ])
                    refine' RL.takeV (i := 15) (v := _) rfl (by kernel_rfl) (by kernel_rfl) (by kernel_rfl) (fun _ _ _ h => h) (by rfl) ?hk60 ?_
                    case hk60 => (intro W hSW; go_simp; try with_reducible rfl)
                    (try simp only [Act.put, List.setIfInBounds_toArray, List.set_cons_zero, List.set_cons_succ])
                    refine RL.done (by kernel_rfl) (fun wd hlwd hswd => ?_)
                    have HMD := Lib.hid (HM.out.below (show Below W.heap.size W wd from hswd))
                    clear hlwd hswd hkp hkq hkp2 hkq2 HM
                    have HM := HMD
                    clear HMD
                    cases r with
                    | some x =>
                      have HAN := Lib.hid (HA.out.some hk8 HNC.out HRR.out)
                      have er : (some x : Option ByteArray).isSome = true := rfl
                      have eg : (some x : Option ByteArray).getD e0 = x := rfl
                      rw [er, eg]
                      go_wp2_with (first
                        | (at_builtin; refine app1 rfl _ _ _ rfl Tryd.underlying23 infoStr rfl (by decide) (HM.out.own 3 rfl) rfl rfl (by simp [Value.oneCell']) (by rw [List.length_map, HA.out.1]; omega) (Nat.zero_le _) ?_
                           intro v9 w6 ho hg hat
                           have hm6 := HM.out.app 3 rfl ho hg (hat.imp id fun e => ⟨_, e, Nat.le_succ _⟩)
                           simp only [List.set_cons_succ, List.set_cons_zero] at hm6
                           rw [snoc_map out x] at hm6
                           have HN := Lib.hid hm6
                           clear ho hg hat hm6))
                      go_roundw
                      case rel =>
                        first
                          | exact ⟨6, out ++ [x], _, _, by omega, rfl, rfl, rfl, HAN.out, HN.out⟩
                          | ((repeat apply Exists.intro); refine ⟨?_, rfl⟩; exact ⟨6, out ++ [x], _, _, by omega, rfl, rfl, rfl, HAN.out, HN.out⟩)
                      case measure => (first | (simp [intOf]; done) | (simp [intOf]; omega))
                    | none =>
                      have HRE := Lib.hid (HR.out.trans (HA.out.none hk8 HNC.out HRR.out))
                      have er : (none : Option ByteArray).isSome = false := rfl
                      rw [er]
                      go_wp2_with fail
                      go_ret3
                      exact RagPost.fault HNM.out (by rw [HOKS.out.1, HOKS.out.2]; rfl) HRE.out HM.out.bel
              · have HNC := Lib.hid (show NoC out k from fun h => hk4 h.1)
                have e4 : ((k : Int) == 4) = false := by rw [beq_eq_false_iff_ne]; omega
                have e5 : ((k : Int) == 5) = false := by rw [beq_eq_false_iff_ne]; omega
                clear hk4
                obtain ⟨pb2, po, pB, pm, pc, rfl, hpl, hpc, hps, hpz, hpx⟩ := nth_list HPR.out HPV.out k (by have := HPO.out.2.2.1; omega)
                obtain ⟨qb2, qo, qB, qm, qc, rfl, hql, hqc, hqs, hqz, hqx⟩ := nth_list HQR.out HQV.out k (by have := HQO.out.2.2.1; omega)
                have hkp : (k : Int) < pnn := by have := HPO.out.2.2.1; have := HPL.out; omega
                have hkq : (k : Int) < qnn := by have := HQO.out.2.2.1; have := HQL.out; omega
                have hkp2 : k < pnn := by omega
                have hkq2 : k < qnn := by omega
                have HPC := Lib.hid (And.intro hpl hpc)
                have HQC := Lib.hid (And.intro hql hqc)
                obtain ⟨r, hr⟩ : ∃ r, chooseL (ca.n.getD k []) (sa.n.getD k []) = r := ⟨_, rfl⟩
                have HCH := Lib.hid (show ∀ W, Below w.heap.size w W → Calls Tryd.prog 15 #[.slice pB pm pc, .slice qB qm qc] W fun e w' => e = .returned (.tuple #[.string (r.getD e0), .bool r.isSome]) ∧ W = w' from fun W hW => by
                  have := RefChoose_any W _ _ _ _ (hps.below hW) (hqs.below hW)
                  rw [hr] at this
                  exact this)
                have HRR := Lib.hid hr
                have HBA := Lib.hid (HM.out.blk 0 rfl)
                have HBB := Lib.hid (HM.out.blk 1 rfl)
                have HBW := Lib.hid HM.out.bel
                clear hpl hpc hps hpz hpx hql hqc hqs hqz hqx hr
                go_upto_region 9 with (fail)
                refine RL.start (RL.Aft W) (by kernel_rfl) (RL.Aft.drew (RL.Aft.refl W)) ?_
                refine' RL.takeV (i := 0) (v := _) rfl (by kernel_rfl) (by kernel_rfl) (by kernel_rfl) (fun _ _ _ h => h) (by rfl) ?hk61 ?_
                case hk61 => (intro W hSW; go_simp; try with_reducible rfl)
                (try simp only [Act.put, List.setIfInBounds_toArray, List.set_cons_zero, List.set_cons_succ])
                refine' RL.takeV (i := 1) (v := _) rfl (by kernel_rfl) (by kernel_rfl) (by kernel_rfl) (fun _ _ _ h => h) (by rfl) ?hk62 ?_
                case hk62 => (intro W hSW; have g := (HBA.out.below hSW HBA.out.lt).cell 3 (v := .slice (some ⟨pb2, po, none⟩) pnn pcn) rfl; go_simp; try with_reducible rfl)
                (try simp only [Act.put, List.setIfInBounds_toArray, List.set_cons_zero, List.set_cons_succ])
                refine' RL.takeV (i := 2) (v := _) rfl (by kernel_rfl) (by kernel_rfl) (by kernel_rfl) (fun _ _ _ h => h) (by rfl) ?hk63 ?_
                case hk63 => (intro W hSW; go_simp; try with_reducible rfl)
                (try simp only [Act.put, List.setIfInBounds_toArray, List.set_cons_zero, List.set_cons_succ])
                refine' RL.takeV (i := 3) (v := _) rfl (by kernel_rfl) (by kernel_rfl) (by kernel_rfl) (fun _ _ _ h => h) (by rfl) ?hk64 ?_
                case hk64 => (intro W hSW; go_simp; try with_reducible rfl)
                (try simp only [Act.put, List.setIfInBounds_toArray, List.set_cons_zero, List.set_cons_succ])
                refine' RL.takeV (i := 4) (v := _) rfl (by kernel_rfl) (by kernel_rfl) (by kernel_rfl) (fun _ _ _ h => h) (by rfl) ?hk65 ?_
                case hk65 => (intro W hSW; have g : W.cell? ⟨pb2, po + k, none⟩ = some (.slice pB pm pc) := ((HBW.out.trans (hSW.mono HBW.out.size)).cell (p := ⟨pb2, po + k, none⟩) HPC.out.1).trans HPC.out.2; go_simp; try with_reducible rfl)
                (try simp only [Act.put, List.setIfInBounds_toArray, List.set_cons_zero, List.set_cons_succ])
                refine' RL.takeV (i := 5) (v := _) rfl (by kernel_rfl) (by kernel_rfl) (by kernel_rfl) (fun _ _ _ h => h) (by rfl) ?hk66 ?_
                case hk66 => (intro W hSW; go_simp; try with_reducible rfl)
                (try simp only [Act.put, List.setIfInBounds_toArray, List.set_cons_zero, List.set_cons_succ])
                refine' RL.takeV (i := 6) (v := _) rfl (by kernel_rfl) (by kernel_rfl) (by kernel_rfl) (fun _ _ _ h => h) (by rfl) ?hk67 ?_
                case hk67 => (intro W hSW; have g := (HBB.out.below hSW HBB.out.lt).cell 3 (v := .slice (some ⟨qb2, qo, none⟩) qnn qcn) rfl; go_simp; try with_reducible rfl)
                (try simp only [Act.put, List.setIfInBounds_toArray, List.set_cons_zero, List.set_cons_succ])
                refine' RL.takeV (i := 7) (v := _) rfl (by kernel_rfl) (by kernel_rfl) (by kernel_rfl) (fun _ _ _ h => h) (by rfl) ?hk68 ?_
                case hk68 => (intro W hSW; go_simp; try with_reducible rfl)
                (try simp only [Act.put, List.setIfInBounds_toArray, List.set_cons_zero, List.set_cons_succ])
                refine' RL.takeV (i := 8) (v := _) rfl (by kernel_rfl) (by kernel_rfl) (by kernel_rfl) (fun _ _ _ h => h) (by rfl) ?hk69 ?_
                case hk69 => (intro W hSW; go_simp; try with_reducible rfl)
                (try simp only [Act.put, List.setIfInBounds_toArray, List.set_cons_zero, List.set_cons_succ])
                refine' RL.takeV (i := 9) (v := _) rfl (by kernel_rfl) (by kernel_rfl) (by kernel_rfl) (fun _ _ _ h => h) (by rfl) ?hk70 ?_
                case hk70 => (intro W hSW; have g : W.cell? ⟨qb2, qo + k, none⟩ = some (.slice qB qm qc) := ((HBW.out.trans (hSW.mono HBW.out.size)).cell (p := ⟨qb2, qo + k, none⟩) HQC.out.1).trans HQC.out.2; go_simp; try with_reducible rfl)
                (try simp only [Act.put, List.setIfInBounds_toArray, List.set_cons_zero, List.set_cons_succ])
                refine' RL.takeC (i := 10) (v := .tuple #[.string (r.getD e0), .bool r.isSome]) 15 #[.slice pB pm pc, .slice qB qm qc] rfl (by kernel_rfl) (by kernel_rfl) (by kernel_rfl) (fun _ _ _ h => h) (by rfl) ?hk71 ?hc71 ?_
                case hk71 => (intro W; go_simp; try with_reducible rfl)
                case hc71 => (intro W hSW; exact (HCH.out W (HBW.out.trans (hSW.mono HBW.out.size))).mono fun e w' h => ⟨h.1, h.2 ▸ RL.Lat.refl _, h.2 ▸ hSW⟩)
                (try simp only [Act.put, List.setIfInBounds_toArray, List.set_cons_zero, List.set_cons_succ])
                refine' RL.takeV (i := 11) (v := _) rfl (by kernel_rfl) (by kernel_rfl) (by kernel_rfl) (fun _ _ _ h => h) (by rfl) ?hk72 ?_
                case hk72 => (intro W hSW; go_simp; try with_reducible rfl)
                (try simp only [Act.put, List.setIfInBounds_toArray, List.set_cons_zero, List.set_cons_succ])
                refine' RL.takeV (i := 12) (v := _) rfl (by kernel_rfl) (by kernel_rfl) (by kernel_rfl) (fun _ _ _ h => h) (by rfl) ?hk73 ?_
                case hk73 => (intro W hSW; go_simp; try with_reducible rfl)
                (try simp only [Act.put, List.setIfInBounds_toArray, List.set_cons_zero, List.set_cons_succ])
                refine' RL.takeV (i := 13) (v := _) rfl (by kernel_rfl) (by kernel_rfl) (by kernel_rfl) (fun _ _ _ h => h) (by rfl) ?hk74 ?_
                case hk74 => (intro W hSW; go_simp; try with_reducible rfl)
                (try simp only [Act.put, List.setIfInBounds_toArray, List.set_cons_zero, List.set_cons_succ])
                refine' RL.takeV (i := 14) (v := _) rfl (by kernel_rfl) (by kernel_rfl) (by kernel_rfl) (fun _ _ _ h => h) (by rfl) ?hk75 ?_
                case hk75 => (intro W hSW; go_simp; try with_reducible rfl)
                (try simp only [Act.put, List.setIfInBounds_toArray, List.set_cons_zero, List.set_cons_succ])
                refine' RL.takeV (i := 15) (v := _) rfl (by kernel_rfl) (by kernel_rfl) (by kernel_rfl) (fun _ _ _ h => h) (by rfl) ?hk76 ?_
                case hk76 => (intro W hSW; go_simp; try with_reducible rfl)
                (try simp only [Act.put, List.setIfInBounds_toArray, List.set_cons_zero, List.set_cons_succ])
                refine RL.done (by kernel_rfl) (fun wd hlwd hswd => ?_)
                have HMD := Lib.hid (HM.out.below (show Below W.heap.size W wd from hswd))
                clear hlwd hswd hkp hkq hkp2 hkq2 HM
                have HM := HMD
                clear HMD
                cases r with
                | some x =>
                  have HAN := Lib.hid (HA.out.some hk8 HNC.out HRR.out)
                  have er : (some x : Option ByteArray).isSome = true := rfl
                  have eg : (some x : Option ByteArray).getD e0 = x := rfl
                  rw [er, eg]
                  go_wp2_with (first
                    | (at_builtin; refine app1 rfl _ _ _ rfl Tryd.underlying23 infoStr rfl (by decide) (HM.out.own 3 rfl) rfl rfl (by simp [Value.oneCell']) (by rw [List.length_map, HA.out.1]; omega) (Nat.zero_le _) ?_
                       intro v9 w6 ho hg hat
                       have hm6 := HM.out.app 3 rfl ho hg (hat.imp id fun e => ⟨_, e, Nat.le_succ _⟩)
                       simp only [List.set_cons_succ, List.set_cons_zero] at hm6
                       rw [snoc_map out x] at hm6
                       have HN := Lib.hid hm6
                       clear ho hg hat hm6))
                  go_roundw
                  case rel =>
                    first
                      | exact ⟨k + 1, out ++ [x], _, _, by omega, rfl, rfl, by go_num, HAN.out, HN.out⟩
                      | ((repeat apply Exists.intro); refine ⟨?_, rfl⟩; exact ⟨k + 1, out ++ [x], _, _, by omega, rfl, rfl, by go_num, HAN.out, HN.out⟩)
                  case measure => (first | (simp [intOf]; done) | (simp [intOf]; omega))
                | none =>
                  have HRE := Lib.hid (HR.out.trans (HA.out.none hk8 HNC.out HRR.out))
                  have er : (none : Option ByteArray).isSome = false := rfl
                  rw [er]
                  go_wp2_with fail
                  go_ret3
                  exact RagPost.fault HNM.out (by rw [HOKS.out.1, HOKS.out.2]; rfl) HRE.out HM.out.bel
            · obtain rfl : k = 8 := by omega
              have HRE := Lib.hid (HR.out.trans HA.out.done)
              have HSL := Lib.hid (slOwns (HM.out.own 3 rfl))
              go_wp2_with fail
              go_ret3
              exact RagPost.ok (by rw [HOKS.out.1, HOKS.out.2]; rfl) HRE.out HM.out.bel HSL.out
        · have HNO := Lib.hid (show (okm ca && okm sa) = false by rw [okm_no (m := sa) (.inr (by rw [HQK.out.2]; exact h4))]; exact Bool.and_false _)
          subst h1; subst h2; subst h3
          have hz4 : ((qe : Int) != 0) = true := by rw [bne_iff_ne]; omega
          have p00 := (HX0.out.blk 0 rfl).cell 0 (v := .int .i64 20) rfl
          have p01 := (HX0.out.blk 0 rfl).cell 1 (v := .slice pu pnu pcu) rfl
          have p02 := (HX0.out.blk 0 rfl).cell 2 (v := .slice ps pns pcs) rfl
          have p03 := (HX0.out.blk 0 rfl).cell 3 (v := .slice pn pnn pcn) rfl
          have p04 := (HX0.out.blk 0 rfl).cell 4 (v := .slice pb pnb pcb) rfl
          have q10 := (HX0.out.blk 1 rfl).cell 0 (v := .int .i64 20) rfl
          have q11 := (HX0.out.blk 1 rfl).cell 1 (v := .slice qu qnu qcu) rfl
          have q12 := (HX0.out.blk 1 rfl).cell 2 (v := .slice qs qns qcs) rfl
          have q13 := (HX0.out.blk 1 rfl).cell 3 (v := .slice qn qnn qcn) rfl
          have q14 := (HX0.out.blk 1 rfl).cell 4 (v := .slice qb qnb qcb) rfl
          go_enter Tryd.func25, Tryd.ntmps25
          have tok := True.intro
          go_wp2_with (first | (have _t := tok; go_at_call 29; refine (HCP.out _ HX0.out.bel).mono ?_; rintro e w1 ⟨rfl, hb⟩; clear _t tok; have hm1 := HX0.out.below hb; have s10 := (hm1.blk 1 rfl).cell 0 (v := .int .i64 20) rfl; have s11 := (hm1.blk 1 rfl).cell 1 (v := .slice qu qnu qcu) rfl; have s12 := (hm1.blk 1 rfl).cell 2 (v := .slice qs qns qcs) rfl; have s13 := (hm1.blk 1 rfl).cell 3 (v := .slice qn qnn qcn) rfl; have s14 := (hm1.blk 1 rfl).cell 4 (v := .slice qb qnb qcb) rfl; have HX1 := Lib.hid hm1; clear hb hm1) | (go_at_call 29; refine (HCQ.out _ HX1.out.bel).mono ?_; rintro e w2 ⟨rfl, hb⟩; skip; have HX2 := Lib.hid (HX1.out.below hb); clear hb))
          go_ret3
          exact RagPost.bad HNO.out HX2.out.bel
      · have HNO := Lib.hid (show (okm ca && okm sa) = false by rw [okm_no (m := ca) (.inr (by rw [HPK.out.2]; exact h3))]; rfl)
        subst h1; subst h2
        have hz3 : ((pe : Int) != 0) = true := by rw [bne_iff_ne]; omega
        have p00 := (HX0.out.blk 0 rfl).cell 0 (v := .int .i64 20) rfl
        have p01 := (HX0.out.blk 0 rfl).cell 1 (v := .slice pu pnu pcu) rfl
        have p02 := (HX0.out.blk 0 rfl).cell 2 (v := .slice ps pns pcs) rfl
        have p03 := (HX0.out.blk 0 rfl).cell 3 (v := .slice pn pnn pcn) rfl
        have p04 := (HX0.out.blk 0 rfl).cell 4 (v := .slice pb pnb pcb) rfl
        have q10 := (HX0.out.blk 1 rfl).cell 0 (v := .int .i64 20) rfl
        have q11 := (HX0.out.blk 1 rfl).cell 1 (v := .slice qu qnu qcu) rfl
        have q12 := (HX0.out.blk 1 rfl).cell 2 (v := .slice qs qns qcs) rfl
        have q13 := (HX0.out.blk 1 rfl).cell 3 (v := .slice qn qnn qcn) rfl
        have q14 := (HX0.out.blk 1 rfl).cell 4 (v := .slice qb qnb qcb) rfl
        go_enter Tryd.func25, Tryd.ntmps25
        have tok := True.intro
        go_wp2_with (first | (have _t := tok; go_at_call 29; refine (HCP.out _ HX0.out.bel).mono ?_; rintro e w1 ⟨rfl, hb⟩; clear _t tok; have hm1 := HX0.out.below hb; have s10 := (hm1.blk 1 rfl).cell 0 (v := .int .i64 20) rfl; have s11 := (hm1.blk 1 rfl).cell 1 (v := .slice qu qnu qcu) rfl; have s12 := (hm1.blk 1 rfl).cell 2 (v := .slice qs qns qcs) rfl; have s13 := (hm1.blk 1 rfl).cell 3 (v := .slice qn qnn qcn) rfl; have s14 := (hm1.blk 1 rfl).cell 4 (v := .slice qb qnb qcb) rfl; have HX1 := Lib.hid hm1; clear hb hm1))
        go_ret3
        exact RagPost.bad HNO.out HX1.out.bel
    · have HNO := Lib.hid (show (okm ca && okm sa) = false by rw [okm_no (m := sa) (.inl (by rw [HQK.out.1]; exact h2))]; exact Bool.and_false _)
      subst h1
      have hz2 : (qk != 20) = true := by rw [bne_iff_ne]; exact h2
      have p00 := (HX0.out.blk 0 rfl).cell 0 (v := .int .i64 20) rfl
      have p01 := (HX0.out.blk 0 rfl).cell 1 (v := .slice pu pnu pcu) rfl
      have p02 := (HX0.out.blk 0 rfl).cell 2 (v := .slice ps pns pcs) rfl
      have p03 := (HX0.out.blk 0 rfl).cell 3 (v := .slice pn pnn pcn) rfl
      have p04 := (HX0.out.blk 0 rfl).cell 4 (v := .slice pb pnb pcb) rfl
      have q10 := (HX0.out.blk 1 rfl).cell 0 (v := .int .i64 qk) rfl
      have q11 := (HX0.out.blk 1 rfl).cell 1 (v := .slice qu qnu qcu) rfl
      have q12 := (HX0.out.blk 1 rfl).cell 2 (v := .slice qs qns qcs) rfl
      have q13 := (HX0.out.blk 1 rfl).cell 3 (v := .slice qn qnn qcn) rfl
      have q14 := (HX0.out.blk 1 rfl).cell 4 (v := .slice qb qnb qcb) rfl
      go_enter Tryd.func25, Tryd.ntmps25
      go_wp2_with fail
      go_ret3
      exact RagPost.bad HNO.out HX0.out.bel
  · have HNO := Lib.hid (show (okm ca && okm sa) = false by rw [okm_no (m := ca) (.inl (by rw [HPK.out.1]; exact h1))]; rfl)
    have hz1 : (pk != 20) = true := by rw [bne_iff_ne]; exact h1
    have p00 := (HX0.out.blk 0 rfl).cell 0 (v := .int .i64 pk) rfl
    have p01 := (HX0.out.blk 0 rfl).cell 1 (v := .slice pu pnu pcu) rfl
    have p02 := (HX0.out.blk 0 rfl).cell 2 (v := .slice ps pns pcs) rfl
    have p03 := (HX0.out.blk 0 rfl).cell 3 (v := .slice pn pnn pcn) rfl
    have p04 := (HX0.out.blk 0 rfl).cell 4 (v := .slice pb pnb pcb) rfl
    have q10 := (HX0.out.blk 1 rfl).cell 0 (v := .int .i64 qk) rfl
    have q11 := (HX0.out.blk 1 rfl).cell 1 (v := .slice qu qnu qcu) rfl
    have q12 := (HX0.out.blk 1 rfl).cell 2 (v := .slice qs qns qcs) rfl
    have q13 := (HX0.out.blk 1 rfl).cell 3 (v := .slice qn qnn qcn) rfl
    have q14 := (HX0.out.blk 1 rfl).cell 4 (v := .slice qb qnb qcb) rfl
    go_enter Tryd.func25, Tryd.ntmps25
    go_wp2_with fail
    go_ret3
    exact RagPost.bad HNO.out HX0.out.bel
end Go.Proofs.YtjfikbnfabdkoaaDoor.Of
