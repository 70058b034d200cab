/- The law MessageBack: the walk. -/
import Derived.Test.YtjfikbnfabdkoaaDoorMsgAwk
import Derived.Test.YtjfikbnfabdkoaaDoorMsgFew
import Derived.Test.YtjfikbnfabdkoaaDoorMsgA
import Derived.Test.YtjfikbnfabdkoaaDoorMsgRefB
import Derived.Test.YtjfikbnfabdkoaaDoorMsgB
set_option linter.unusedVariables false
set_option linter.unusedSimpArgs false
namespace Go.Proofs.YtjfikbnfabdkoaaDoor.Mg
open Go.RowKit Go.Proofs.YtjfikbnfabdkoaaDoor.Wi Go.Proofs.YtjfikbnfabdkoaaDoor.Ow Go.Proofs.YtjfikbnfabdkoaaDoor.Be Go.Proofs.YtjfikbnfabdkoaaDoor.Sp
theorem few_len (m : Msg) : (bytesL (few m)).length ≤ 1000000 := by
  have := bytes_len (few m) 1000 (fun x hx => by
    obtain ⟨y, _, rfl⟩ := List.mem_map.1 hx
    have := cut_size 100 y
    omega) (fun l hl => by
    obtain ⟨y, _, rfl⟩ := List.mem_map.1 hl
    have h1 : (fewN y).length ≤ 6 := by unfold fewN; rw [List.length_map, List.length_take]; omega
    have h2 : ∀ x ∈ fewN y, x.size ≤ 70 := fun x hx => by
      obtain ⟨z, _, rfl⟩ := List.mem_map.1 hx
      exact cut_size 70 z
    have := joinC_le (fewN y) (fewN y).length (Nat.le_refl _) h2
    rw [List.take_length] at this
    omega) (by decide)
  omega
theorem wp_nameB {P : Program} {c : Code} {Q : Exit → Act → World → Prop} {a : Act} {W : World} (h : ∀ X, X = W → c.wp P Q a X) : c.wp P Q a W := h W rfl
set_option maxRecDepth 20000 in
set_option maxHeartbeats 8000000 in
theorem back0 (w : World) (m : Msg) (vu vs vn vb : Value) (hm : IsMsg w m vu vs vn vb) (hu : ∀ x ∈ m.u, x < 4294967296) (a : Nat → Addr) (hE : Ei.ErrsAll w a) (hT : TabR w) (hM : ∃ m, w.cell? ⟨22, 0, none⟩ = some (.int .i64 m)) (hc0 : checkC (few m) = 0) :
    Calls Tryd.prog 7 #[.agg (mC m.kind vu vs vn vb)] w fun e w' => e = .returned (.bool true) ∧ Below w.heap.size w w' := by
  have HAW := Lib.hid (show ∀ W, Below w.heap.size w W → Calls Tryd.prog 18 #[] W fun e w' => e = .returned (.bool true) ∧ Below W.heap.size W w' from fun W hW => awake10 W a ((ErrsM.of hE).below hW) (hT.below hW) (cell_later hM hW))
  have hfit := few_fit m hu
  obtain ⟨c, hc⟩ : ∃ c, checkC (few m) = c := ⟨_, rfl⟩
  have hcl : c ≤ 20 := by rw [← hc]; exact check_le _
  obtain ⟨B, hB⟩ : ∃ B, mkS (bytesL (few m)) = B := ⟨_, rfl⟩
  have hBs : B.size ≤ 1000000 := by rw [← hB, mkS_size]; exact few_len m
  obtain ⟨fm, hfm⟩ : ∃ fm, few m = fm := ⟨_, rfl⟩
  obtain ⟨kd, hkd⟩ : ∃ kd, m.kind = kd := ⟨_, rfl⟩
  have hfk : fm.kind = kd := by rw [← hfm, ← hkd]; rfl
  have HFW := Lib.hid (show ∀ W, Below w.heap.size w W → Calls Tryd.prog 23 #[.agg (mC kd vu vs vn vb)] W fun e w' => ∃ xu xs xn xb, e = .returned (.agg #[.int .i64 kd, xu, xs, xn, xb]) ∧ (∀ V, Out w.heap.size W.heap.size w' V → IsMsg V fm xu xs xn xb) ∧ Below W.heap.size W w' from fun W hW => by
    have := Few_any w W hW m vu vs vn vb hm
    unfold FewPost at this
    rw [hkd, hfm] at this
    exact this)
  have HCK := Lib.hid (show ∀ W, Below w.heap.size w W → ∀ xu xs xn xb, IsMsg W fm xu xs xn xb → Calls Tryd.prog 28 #[.agg #[.int .i64 kd, xu, xs, xn, xb]] W fun e w' => e = .returned (Ei.evA a c) ∧ Below W.heap.size W w' from fun W hW xu xs xn xb h => by
    have := Check_any W a ((ErrsM.of hE).below hW) (hT.below hW) fm xu xs xn xb h (hfm ▸ hfit)
    rw [hfk, ← hfm, hc] at this
    exact this)
  have HRC := Lib.hid (show ∀ W xu xs xn xb, IsMsg W fm xu xs xn xb → Calls Tryd.prog 29 #[.agg #[.int .i64 kd, xu, xs, xn, xb]] W fun e w' => e = .returned (.int .i64 (c : Int)) ∧ Below W.heap.size W w' from fun W xu xs xn xb h => by
    have := RefCheck_any W fm xu xs xn xb h (hfm ▸ hfit)
    rw [hfk, ← hfm, hc] at this
    exact this)
  have HBY := Lib.hid (show ∀ W, Below w.heap.size w W → ∀ xu xs xn xb, IsMsg W fm xu xs xn xb → Calls Tryd.prog 30 #[.agg #[.int .i64 kd, xu, xs, xn, xb]] W fun e w' => e = .returned (.string B) ∧ Below W.heap.size W w' from fun W hW xu xs xn xb h => by
    have := MsgBytes_any W a ((ErrsM.of hE).below hW) (hT.below hW) fm xu xs xn xb h (hfm ▸ hfit)
    rw [hfk, ← hfm, hB] at this
    exact this)
  have HRB := Lib.hid (show ∀ W xu xs xn xb, IsMsg W fm xu xs xn xb → Calls Tryd.prog 31 #[.agg #[.int .i64 kd, xu, xs, xn, xb]] W fun e w' => e = .returned (.string B) ∧ Below W.heap.size W w' from fun W xu xs xn xb h => by
    have := RefBytes_any W fm xu xs xn xb h (hfm ▸ hfit)
    rw [hfk, ← hfm, hB] at this
    exact this)
  have HCD := Lib.hid (show ∀ W : World, Below w.heap.size w W → Calls Tryd.prog 16 #[Ei.evA a c] W fun e w' => e = .returned (.int .i64 (c : Int)) ∧ W = w' from fun W hW => Ei.Code_any W a (hE.below hW) c hcl)
  have hpb := parse_bytes (few m) B hfit.u hc0 (by rw [← hB]; exact mkS_list _)
  have HPA := Lib.hid (show ∀ W, Below w.heap.size w W → Calls Tryd.prog 32 #[.string B] W fun e w' => ∃ yu ys yn yb, e = .returned (.tuple #[.agg #[.int .i64 kd, yu, ys, yn, yb], .nilIface]) ∧ IsMsg w' fm yu ys yn yb ∧ Below W.heap.size W w' from fun W hW => by
    refine (Parse_any W a ((ErrsM.of hE).below hW) (hT.below hW) (cell_later hM hW) B (by omega)).mono ?_
    rintro e w' ⟨vu, vs, vn, vb, h1, h2, _, h3⟩
    rw [hpb.2, hfm] at h1 h2
    rw [hpb.1, hfk] at h1
    exact ⟨vu, vs, vn, vb, h1, h2, h3⟩)
  have HSM := Lib.hid (show ∀ W yu ys yn yb xu xs xn xb, IsMsg W fm yu ys yn yb → IsMsg W fm xu xs xn xb → Calls Tryd.prog 13 #[.agg #[.int .i64 kd, yu, ys, yn, yb], .agg #[.int .i64 kd, xu, xs, xn, xb]] W fun e w' => e = .returned (.bool true) ∧ Below W.heap.size W w' from fun W vu vs vn vb xu xs xn xb h1 h2 => by
    have := Same_true W fm vu vs vn vb xu xs xn xb h1 h2
    rw [hfk] at this
    exact this)
  have hcz : c = 0 := by rw [← hc]; exact hc0
  subst hcz
  have ct : (((0 : Nat) : Int) != 0) = false := rfl
  clear hpb
  obtain ⟨ev, hev⟩ : ∃ ev, Ei.evA a 0 = ev := ⟨_, rfl⟩
  rw [hev] at HCK HCD
  obtain ⟨pu, lu, du, rfl, _⟩ := hm.u
  obtain ⟨ps, ls, ds, rfl, _⟩ := hm.s
  obtain ⟨vns, ⟨pn, ln, dn, rfl, _⟩, _⟩ := hm.n
  obtain ⟨pb, lb, db, rfl, _⟩ := hm.b
  rw [hkd]
  clear hm hu hE hT hM hc0 hfit hc hcl hB hBs hfm hfk hkd hev
  unfold mC at *
  have HW := Lib.hid (show Below w.heap.size w (w.alloc (.cells #[.int .i64 kd, .slice pu lu du, .slice ps ls ds, .slice pn ln dn, .slice pb lb db] 36)) from (Below.refl _ _).alloc (Nat.le_refl _) _)
  have HQ := Lib.hid (show Rg.Blk (w.alloc (.cells #[.int .i64 kd, .slice pu lu du, .slice ps ls ds, .slice pn ln dn, .slice pb lb db] 36)) w.heap.size 36 #[.int .i64 kd, .slice pu lu du, .slice ps ls ds, .slice pn ln dn, .slice pb lb db] from Rg.Blk.new w _ _)
  go_enter Tryd.func7, Tryd.ntmps7
  go_upto_region 5 with (first
    | (go_at_call 18; refine (HAW.out _ HW.out).mono ?_; rintro e w1 ⟨rfl, hb1⟩; skip
       have HWx := Lib.hid (HW.out.trans (hb1.mono HW.out.size)); clear HW; have HW := HWx; clear HWx; have HQx := Lib.hid (HQ.out.below hb1 HQ.out.lt); clear HQ; have HQ := HQx; clear HQx; clear hb1)
    | (refine wpList_load_row rfl 36 _ rfl _ rfl _ _ _ _ HQ.out Tryd.underlying36 rfl (by kernel_rfl) ?_; skip)
    | (go_at_call 23; refine (HFW.out _ HW.out).mono ?_; rintro e w2 ⟨xu, xs, xn, xb, rfl, hI, hb2⟩
       have hi0 := hI w2 (Out.refl _ _ _)
       obtain ⟨au, nu, cu, rfl, _⟩ := hi0.u
       obtain ⟨aS, nS, cS, rfl, _⟩ := hi0.s
       obtain ⟨xns, ⟨an, nn, cn, rfl, _⟩, _⟩ := hi0.n
       obtain ⟨ab, nb, cb, rfl, _⟩ := hi0.b
       have HLT := Lib.hid HQ.out.lt
       have HI := Lib.hid hI
       have HWx := Lib.hid (HW.out.trans (hb2.mono HW.out.size)); clear HW; have HW := HWx; clear HWx; have HQx := Lib.hid (HQ.out.below hb2 HQ.out.lt); clear HQ; have HQ := HQx; clear HQx; clear hb2 hI hi0)
    | (refine Cv.store_blk rfl 36 _ _ rfl w.heap.size #[.int .i64 kd, .slice au nu cu, .slice aS nS cS, .slice an nn cn, .slice ab nb cb] #[.int .i64 kd, .slice pu lu du, .slice ps ls ds, .slice pn ln dn, .slice pb lb db] 36 rfl rfl HQ.out (by kernel_rfl) rfl (by simp [Value.oneCell']) ?_
       intro V hV hgV
       have HIV := Lib.hid (HI.out V ((Out.refl _ _ _).grown hgV (Nat.le_refl _) HLT.out))
       have HWx := Lib.hid (HW.out.grown hgV HW.out.size (fun k hk => by cases hk; exact Nat.le_refl _)); clear HW; have HW := HWx; clear HWx; clear HQ; have HQ := Lib.hid hV; clear hV hgV HI)
    | (refine Rg.store_fresh rfl 32 _ _ rfl #[.int .i64 kd, .slice au nu cu, .slice aS nS cS, .slice an nn cn, .slice ab nb cb] _ 32 rfl rfl (by kernel_rfl) rfl (by simp [Value.oneCell']) ?_
       intro Y hY hbY
       have HD := Lib.hid hY; have HWx := Lib.hid (HW.out.trans (hbY.mono HW.out.size)); clear HW; have HW := HWx; clear HWx; have HQx := Lib.hid (HQ.out.below hbY HQ.out.lt); clear HQ; have HQ := HQx; clear HQx; have HIVx := Lib.hid (HIV.out.below hbY); clear HIV; have HIV := HIVx; clear HIVx; clear hY hbY))
  generalize V.heap.size = P3 at *
  refine RL.start (RL.Aft Y) (by kernel_rfl) (RL.Aft.drew (RL.Aft.refl Y)) ?_
  refine RL.takeV (i := 0) (v := .agg #[.int .i64 kd, .slice au nu cu, .slice aS nS cS, .slice an nn cn, .slice ab nb cb]) rfl (by kernel_rfl) (by kernel_rfl) (by kernel_rfl) (fun _ _ _ h => h) (by rfl) (fun W hSW => RT.run_row 32 _ rfl _ rfl _ _ (HD.out.below hSW HD.out.lt) Tryd.underlying32 rfl (by kernel_rfl)) ?_
  (try simp only [Act.put, List.setIfInBounds_toArray, List.set_cons_zero, List.set_cons_succ])
  refine' RL.takeC (i := 1) (v := ev) 28 #[.agg #[.int .i64 kd, .slice au nu cu, .slice aS nS cS, .slice an nn cn, .slice ab nb cb]] rfl (by kernel_rfl) (by kernel_rfl) (by kernel_rfl) (fun _ _ _ h => h) (by rfl) ?hk1 ?hc1 ?_
  case hk1 => (intro W; go_simp; try with_reducible rfl)
  case hc1 => (intro W hSW; exact (HCK.out W (HW.out.trans (hSW.mono HW.out.size)) _ _ _ _ (HIV.out.below hSW)).mono fun e w' h => ⟨h.1, h.2, RL.Aft.lat hSW h.2⟩)
  (try simp only [Act.put, List.setIfInBounds_toArray, List.set_cons_zero, List.set_cons_succ])
  refine' RL.takeC (i := 2) (v := .int .i64 ((0 : Nat) : Int)) 16 #[ev] rfl (by kernel_rfl) (by kernel_rfl) (by kernel_rfl) (fun _ _ _ h => h) (by rfl) ?hk2 ?hc2 ?_
  case hk2 => (intro W; go_simp; try with_reducible rfl)
  case hc2 => (intro W hSW; exact (HCD.out W (HW.out.trans (hSW.mono HW.out.size))).mono fun e w' h => ⟨h.1, h.2 ▸ RL.Lat.refl _, h.2 ▸ hSW⟩)
  (try simp only [Act.put, List.setIfInBounds_toArray, List.set_cons_zero, List.set_cons_succ])
  refine RL.takeV (i := 3) (v := .agg #[.int .i64 kd, .slice au nu cu, .slice aS nS cS, .slice an nn cn, .slice ab nb cb]) rfl (by kernel_rfl) (by kernel_rfl) (by kernel_rfl) (fun _ _ _ h => h) (by rfl) (fun W hSW => RT.run_row 36 _ rfl _ rfl _ _ (HQ.out.below hSW HQ.out.lt) Tryd.underlying36 rfl (by kernel_rfl)) ?_
  (try simp only [Act.put, List.setIfInBounds_toArray, List.set_cons_zero, List.set_cons_succ])
  refine' RL.takeC (i := 4) (v := .int .i64 ((0 : Nat) : Int)) 29 #[.agg #[.int .i64 kd, .slice au nu cu, .slice aS nS cS, .slice an nn cn, .slice ab nb cb]] rfl (by kernel_rfl) (by kernel_rfl) (by kernel_rfl) (fun _ _ _ h => h) (by rfl) ?hk3 ?hc3 ?_
  case hk3 => (intro W; go_simp; try with_reducible rfl)
  case hc3 => (intro W hSW; exact (HRC.out W _ _ _ _ (HIV.out.below hSW)).mono fun e w' h => ⟨h.1, h.2, RL.Aft.lat hSW h.2⟩)
  (try simp only [Act.put, List.setIfInBounds_toArray, List.set_cons_zero, List.set_cons_succ])
  refine' RL.takeV (i := 5) (v := _) rfl (by kernel_rfl) (by kernel_rfl) (by kernel_rfl) (fun _ _ _ h => h) (by rfl) ?hk4 ?_
  case hk4 => (intro W hSW; go_simp; try with_reducible rfl)
  (try simp only [Act.put, List.setIfInBounds_toArray, List.set_cons_zero, List.set_cons_succ])
  refine' RL.takeV (i := 6) (v := _) rfl (by kernel_rfl) (by kernel_rfl) (by kernel_rfl) (fun _ _ _ h => h) (by rfl) ?hk5 ?_
  case hk5 => (intro W hSW; go_simp; try with_reducible rfl)
  (try simp only [Act.put, List.setIfInBounds_toArray, List.set_cons_zero, List.set_cons_succ])
  refine RL.takeV (i := 7) (v := .agg #[.int .i64 kd, .slice au nu cu, .slice aS nS cS, .slice an nn cn, .slice ab nb cb]) rfl (by kernel_rfl) (by kernel_rfl) (by kernel_rfl) (fun _ _ _ h => h) (by rfl) (fun W hSW => RT.run_row 32 _ rfl _ rfl _ _ (HD.out.below hSW HD.out.lt) Tryd.underlying32 rfl (by kernel_rfl)) ?_
  (try simp only [Act.put, List.setIfInBounds_toArray, List.set_cons_zero, List.set_cons_succ])
  refine' RL.takeC (i := 8) (v := .string B) 30 #[.agg #[.int .i64 kd, .slice au nu cu, .slice aS nS cS, .slice an nn cn, .slice ab nb cb]] rfl (by kernel_rfl) (by kernel_rfl) (by kernel_rfl) (fun _ _ _ h => h) (by rfl) ?hk6 ?hc6 ?_
  case hk6 => (intro W; go_simp; try with_reducible rfl)
  case hc6 => (intro W hSW; exact (HBY.out W (HW.out.trans (hSW.mono HW.out.size)) _ _ _ _ (HIV.out.below hSW)).mono fun e w' h => ⟨h.1, h.2, RL.Aft.lat hSW h.2⟩)
  (try simp only [Act.put, List.setIfInBounds_toArray, List.set_cons_zero, List.set_cons_succ])
  refine RL.takeV (i := 9) (v := .agg #[.int .i64 kd, .slice au nu cu, .slice aS nS cS, .slice an nn cn, .slice ab nb cb]) rfl (by kernel_rfl) (by kernel_rfl) (by kernel_rfl) (fun _ _ _ h => h) (by rfl) (fun W hSW => RT.run_row 36 _ rfl _ rfl _ _ (HQ.out.below hSW HQ.out.lt) Tryd.underlying36 rfl (by kernel_rfl)) ?_
  (try simp only [Act.put, List.setIfInBounds_toArray, List.set_cons_zero, List.set_cons_succ])
  refine' RL.takeC (i := 10) (v := .string B) 31 #[.agg #[.int .i64 kd, .slice au nu cu, .slice aS nS cS, .slice an nn cn, .slice ab nb cb]] rfl (by kernel_rfl) (by kernel_rfl) (by kernel_rfl) (fun _ _ _ h => h) (by rfl) ?hk7 ?hc7 ?_
  case hk7 => (intro W; go_simp; try with_reducible rfl)
  case hc7 => (intro W hSW; exact (HRB.out W _ _ _ _ (HIV.out.below hSW)).mono fun e w' h => ⟨h.1, h.2, RL.Aft.lat hSW h.2⟩)
  (try simp only [Act.put, List.setIfInBounds_toArray, List.set_cons_zero, List.set_cons_succ])
  refine' RL.takeV (i := 11) (v := _) rfl (by kernel_rfl) (by kernel_rfl) (by kernel_rfl) (fun _ _ _ h => h) (by rfl) ?hk8 ?_
  case hk8 => (intro W hSW; go_simp; try with_reducible rfl)
  (try simp only [Act.put, List.setIfInBounds_toArray, List.set_cons_zero, List.set_cons_succ])
  refine' RL.takeV (i := 12) (v := _) rfl (by kernel_rfl) (by kernel_rfl) (by kernel_rfl) (fun _ _ _ h => h) (by rfl) ?hk9 ?_
  case hk9 => (intro W hSW; go_simp; try with_reducible rfl)
  (try simp only [Act.put, List.setIfInBounds_toArray, List.set_cons_zero, List.set_cons_succ])
  refine RL.done (by kernel_rfl) (fun wd hlwd hswd => ?_)
  have hSW : Below Y.heap.size Y wd := hswd
  have HWx := Lib.hid (HW.out.trans (hSW.mono HW.out.size)); clear HW; have HW := HWx; clear HWx
  have HQx := Lib.hid (HQ.out.below hSW HQ.out.lt); clear HQ; have HQ := HQx; clear HQx
  have HDx := Lib.hid (HD.out.below hSW HD.out.lt); clear HD; have HD := HDx; clear HDx
  have HIVx := Lib.hid (HIV.out.below hSW); clear HIV; have HIV := HIVx; clear HIVx
  clear hSW hswd hlwd
  go_wp2_with (first
    | (refine wpList_load_row rfl 36 _ rfl _ rfl _ _ _ _ HQ.out Tryd.underlying36 rfl (by kernel_rfl) ?_; skip)
    | (refine wpList_load_row rfl 32 _ rfl _ rfl _ _ _ _ HD.out Tryd.underlying32 rfl (by kernel_rfl) ?_; skip)
    | (go_at_call 29; refine (HRC.out _ _ _ _ _ HIV.out).mono ?_; rintro e w5 ⟨rfl, hb⟩; skip; have HWx := Lib.hid (HW.out.trans (hb.mono HW.out.size)); clear HW; have HW := HWx; clear HWx; have HQx := Lib.hid (HQ.out.below hb HQ.out.lt); clear HQ; have HQ := HQx; clear HQx; have HDx := Lib.hid (HD.out.below hb HD.out.lt); clear HD; have HD := HDx; clear HDx; have HIVx := Lib.hid (HIV.out.below hb); clear HIV; have HIV := HIVx; clear HIVx; clear hb)
    | (go_at_call 30; refine (HBY.out _ HW.out _ _ _ _ HIV.out).mono ?_; rintro e w6 ⟨rfl, hb⟩; skip; have HWx := Lib.hid (HW.out.trans (hb.mono HW.out.size)); clear HW; have HW := HWx; clear HWx; have HQx := Lib.hid (HQ.out.below hb HQ.out.lt); clear HQ; have HQ := HQx; clear HQx; have HDx := Lib.hid (HD.out.below hb HD.out.lt); clear HD; have HD := HDx; clear HDx; have HIVx := Lib.hid (HIV.out.below hb); clear HIV; have HIV := HIVx; clear HIVx; clear hb)
    | (go_at_call 32; refine (HPA.out _ HW.out).mono ?_; rintro e w7 ⟨yu, ys, yn, yb, rfl, hy, hb⟩
       obtain ⟨gu, hu, iu, rfl, _⟩ := hy.u
       obtain ⟨gS, hS, iS, rfl, _⟩ := hy.s
       obtain ⟨yns, ⟨gn, hn, iN, rfl, _⟩, _⟩ := hy.n
       obtain ⟨gb, hB, ib, rfl, _⟩ := hy.b
       have HY := Lib.hid hy
       have HWx := Lib.hid (HW.out.trans (hb.mono HW.out.size)); clear HW; have HW := HWx; clear HWx; have HQx := Lib.hid (HQ.out.below hb HQ.out.lt); clear HQ; have HQ := HQx; clear HQx; have HIVx := Lib.hid (HIV.out.below hb); clear HIV; have HIV := HIVx; clear HIVx; clear hb hy)
    | (refine Rg.store_fresh rfl 32 _ _ rfl #[.int .i64 kd, .slice gu hu iu, .slice gS hS iS, .slice gn hn iN, .slice gb hB ib] _ 32 rfl rfl (by kernel_rfl) rfl (by simp [Value.oneCell']) ?_
       intro Z hZ hbZ
       have z0 := hZ.cell 0 (v := .int .i64 kd) rfl
       have z1 := hZ.cell 1 (v := .slice gu hu iu) rfl
       have z2 := hZ.cell 2 (v := .slice gS hS iS) rfl
       have z3 := hZ.cell 3 (v := .slice gn hn iN) rfl
       have z4 := hZ.cell 4 (v := .slice gb hB ib) rfl
       have HWx := Lib.hid (HW.out.trans (hbZ.mono HW.out.size)); clear HW; have HW := HWx; clear HWx; have HYx := Lib.hid (HY.out.below hbZ); clear HY; have HY := HYx; clear HYx; have HIVx := Lib.hid (HIV.out.below hbZ); clear HIV; have HIV := HIVx; clear HIVx
       have hq := HQ.out.below hbZ HQ.out.lt
       have q0 := hq.cell 0 (v := .int .i64 kd) rfl
       have q1 := hq.cell 1 (v := .slice au nu cu) rfl
       have q2 := hq.cell 2 (v := .slice aS nS cS) rfl
       have q3 := hq.cell 3 (v := .slice an nn cn) rfl
       have q4 := hq.cell 4 (v := .slice ab nb cb) rfl
       clear hZ hbZ hq)
    | (go_at_call 13; refine (HSM.out _ _ _ _ _ _ _ _ _ HY.out HIV.out).mono ?_; rintro e w8 ⟨rfl, hb⟩; skip; have HWx := Lib.hid (HW.out.trans (hb.mono HW.out.size)); clear HW; have HW := HWx; clear HWx; clear hb))
  go_ret
  exact ⟨by simp, HW.out⟩
set_option maxRecDepth 20000 in
set_option maxHeartbeats 8000000 in
theorem back1 (w : World) (m : Msg) (vu vs vn vb : Value) (hm : IsMsg w m vu vs vn vb) (hu : ∀ x ∈ m.u, x < 4294967296) (a : Nat → Addr) (hE : Ei.ErrsAll w a) (hT : TabR w) (hM : ∃ m, w.cell? ⟨22, 0, none⟩ = some (.int .i64 m)) (hc0 : checkC (few m) ≠ 0) :
    Calls Tryd.prog 7 #[.agg (mC m.kind vu vs vn vb)] w fun e w' => e = .returned (.bool true) ∧ Below w.heap.size w w' := by
  have HAW := Lib.hid (show ∀ W, Below w.heap.size w W → Calls Tryd.prog 18 #[] W fun e w' => e = .returned (.bool true) ∧ Below W.heap.size W w' from fun W hW => awake10 W a ((ErrsM.of hE).below hW) (hT.below hW) (cell_later hM hW))
  have hfit := few_fit m hu
  obtain ⟨c, hc⟩ : ∃ c, checkC (few m) = c := ⟨_, rfl⟩
  have hcl : c ≤ 20 := by rw [← hc]; exact check_le _
  obtain ⟨B, hB⟩ : ∃ B, mkS (bytesL (few m)) = B := ⟨_, rfl⟩
  have hBs : B.size ≤ 1000000 := by rw [← hB, mkS_size]; exact few_len m
  obtain ⟨fm, hfm⟩ : ∃ fm, few m = fm := ⟨_, rfl⟩
  obtain ⟨kd, hkd⟩ : ∃ kd, m.kind = kd := ⟨_, rfl⟩
  have hfk : fm.kind = kd := by rw [← hfm, ← hkd]; rfl
  have HFW := Lib.hid (show ∀ W, Below w.heap.size w W → Calls Tryd.prog 23 #[.agg (mC kd vu vs vn vb)] W fun e w' => ∃ xu xs xn xb, e = .returned (.agg #[.int .i64 kd, xu, xs, xn, xb]) ∧ (∀ V, Out w.heap.size W.heap.size w' V → IsMsg V fm xu xs xn xb) ∧ Below W.heap.size W w' from fun W hW => by
    have := Few_any w W hW m vu vs vn vb hm
    unfold FewPost at this
    rw [hkd, hfm] at this
    exact this)
  have HCK := Lib.hid (show ∀ W, Below w.heap.size w W → ∀ xu xs xn xb, IsMsg W fm xu xs xn xb → Calls Tryd.prog 28 #[.agg #[.int .i64 kd, xu, xs, xn, xb]] W fun e w' => e = .returned (Ei.evA a c) ∧ Below W.heap.size W w' from fun W hW xu xs xn xb h => by
    have := Check_any W a ((ErrsM.of hE).below hW) (hT.below hW) fm xu xs xn xb h (hfm ▸ hfit)
    rw [hfk, ← hfm, hc] at this
    exact this)
  have HRC := Lib.hid (show ∀ W xu xs xn xb, IsMsg W fm xu xs xn xb → Calls Tryd.prog 29 #[.agg #[.int .i64 kd, xu, xs, xn, xb]] W fun e w' => e = .returned (.int .i64 (c : Int)) ∧ Below W.heap.size W w' from fun W xu xs xn xb h => by
    have := RefCheck_any W fm xu xs xn xb h (hfm ▸ hfit)
    rw [hfk, ← hfm, hc] at this
    exact this)
  have HBY := Lib.hid (show ∀ W, Below w.heap.size w W → ∀ xu xs xn xb, IsMsg W fm xu xs xn xb → Calls Tryd.prog 30 #[.agg #[.int .i64 kd, xu, xs, xn, xb]] W fun e w' => e = .returned (.string B) ∧ Below W.heap.size W w' from fun W hW xu xs xn xb h => by
    have := MsgBytes_any W a ((ErrsM.of hE).below hW) (hT.below hW) fm xu xs xn xb h (hfm ▸ hfit)
    rw [hfk, ← hfm, hB] at this
    exact this)
  have HRB := Lib.hid (show ∀ W xu xs xn xb, IsMsg W fm xu xs xn xb → Calls Tryd.prog 31 #[.agg #[.int .i64 kd, xu, xs, xn, xb]] W fun e w' => e = .returned (.string B) ∧ Below W.heap.size W w' from fun W xu xs xn xb h => by
    have := RefBytes_any W fm xu xs xn xb h (hfm ▸ hfit)
    rw [hfk, ← hfm, hB] at this
    exact this)
  have HCD := Lib.hid (show ∀ W : World, Below w.heap.size w W → Calls Tryd.prog 16 #[Ei.evA a c] W fun e w' => e = .returned (.int .i64 (c : Int)) ∧ W = w' from fun W hW => Ei.Code_any W a (hE.below hW) c hcl)
  have hBe : B = ⟨#[]⟩ := by rw [← hB, bytes_no hc0]; rfl
  have hcz : c ≠ 0 := by rw [← hc]; exact hc0
  have ct : ((c : Int) != 0) = true := by rw [bne_iff_ne]; omega
  subst hBe
  clear hcz
  obtain ⟨ev, hev⟩ : ∃ ev, Ei.evA a c = ev := ⟨_, rfl⟩
  rw [hev] at HCK HCD
  obtain ⟨pu, lu, du, rfl, _⟩ := hm.u
  obtain ⟨ps, ls, ds, rfl, _⟩ := hm.s
  obtain ⟨vns, ⟨pn, ln, dn, rfl, _⟩, _⟩ := hm.n
  obtain ⟨pb, lb, db, rfl, _⟩ := hm.b
  rw [hkd]
  clear hm hu hE hT hM hc0 hfit hc hcl hB hBs hfm hfk hkd hev
  unfold mC at *
  have HW := Lib.hid (show Below w.heap.size w (w.alloc (.cells #[.int .i64 kd, .slice pu lu du, .slice ps ls ds, .slice pn ln dn, .slice pb lb db] 36)) from (Below.refl _ _).alloc (Nat.le_refl _) _)
  have HQ := Lib.hid (show Rg.Blk (w.alloc (.cells #[.int .i64 kd, .slice pu lu du, .slice ps ls ds, .slice pn ln dn, .slice pb lb db] 36)) w.heap.size 36 #[.int .i64 kd, .slice pu lu du, .slice ps ls ds, .slice pn ln dn, .slice pb lb db] from Rg.Blk.new w _ _)
  go_enter Tryd.func7, Tryd.ntmps7
  go_upto_region 5 with (first
    | (go_at_call 18; refine (HAW.out _ HW.out).mono ?_; rintro e w1 ⟨rfl, hb1⟩; skip
       have HWx := Lib.hid (HW.out.trans (hb1.mono HW.out.size)); clear HW; have HW := HWx; clear HWx; have HQx := Lib.hid (HQ.out.below hb1 HQ.out.lt); clear HQ; have HQ := HQx; clear HQx; clear hb1)
    | (refine wpList_load_row rfl 36 _ rfl _ rfl _ _ _ _ HQ.out Tryd.underlying36 rfl (by kernel_rfl) ?_; skip)
    | (go_at_call 23; refine (HFW.out _ HW.out).mono ?_; rintro e w2 ⟨xu, xs, xn, xb, rfl, hI, hb2⟩
       have hi0 := hI w2 (Out.refl _ _ _)
       obtain ⟨au, nu, cu, rfl, _⟩ := hi0.u
       obtain ⟨aS, nS, cS, rfl, _⟩ := hi0.s
       obtain ⟨xns, ⟨an, nn, cn, rfl, _⟩, _⟩ := hi0.n
       obtain ⟨ab, nb, cb, rfl, _⟩ := hi0.b
       have HLT := Lib.hid HQ.out.lt
       have HI := Lib.hid hI
       have HWx := Lib.hid (HW.out.trans (hb2.mono HW.out.size)); clear HW; have HW := HWx; clear HWx; have HQx := Lib.hid (HQ.out.below hb2 HQ.out.lt); clear HQ; have HQ := HQx; clear HQx; clear hb2 hI hi0)
    | (refine Cv.store_blk rfl 36 _ _ rfl w.heap.size #[.int .i64 kd, .slice au nu cu, .slice aS nS cS, .slice an nn cn, .slice ab nb cb] #[.int .i64 kd, .slice pu lu du, .slice ps ls ds, .slice pn ln dn, .slice pb lb db] 36 rfl rfl HQ.out (by kernel_rfl) rfl (by simp [Value.oneCell']) ?_
       intro V hV hgV
       have HIV := Lib.hid (HI.out V ((Out.refl _ _ _).grown hgV (Nat.le_refl _) HLT.out))
       have HWx := Lib.hid (HW.out.grown hgV HW.out.size (fun k hk => by cases hk; exact Nat.le_refl _)); clear HW; have HW := HWx; clear HWx; clear HQ; have HQ := Lib.hid hV; clear hV hgV HI)
    | (refine Rg.store_fresh rfl 32 _ _ rfl #[.int .i64 kd, .slice au nu cu, .slice aS nS cS, .slice an nn cn, .slice ab nb cb] _ 32 rfl rfl (by kernel_rfl) rfl (by simp [Value.oneCell']) ?_
       intro Y hY hbY
       have HD := Lib.hid hY; have HWx := Lib.hid (HW.out.trans (hbY.mono HW.out.size)); clear HW; have HW := HWx; clear HWx; have HQx := Lib.hid (HQ.out.below hbY HQ.out.lt); clear HQ; have HQ := HQx; clear HQx; have HIVx := Lib.hid (HIV.out.below hbY); clear HIV; have HIV := HIVx; clear HIVx; clear hY hbY))
  generalize V.heap.size = P3 at *
  refine RL.start (RL.Aft Y) (by kernel_rfl) (RL.Aft.drew (RL.Aft.refl Y)) ?_
  refine RL.takeV (i := 0) (v := .agg #[.int .i64 kd, .slice au nu cu, .slice aS nS cS, .slice an nn cn, .slice ab nb cb]) rfl (by kernel_rfl) (by kernel_rfl) (by kernel_rfl) (fun _ _ _ h => h) (by rfl) (fun W hSW => RT.run_row 32 _ rfl _ rfl _ _ (HD.out.below hSW HD.out.lt) Tryd.underlying32 rfl (by kernel_rfl)) ?_
  (try simp only [Act.put, List.setIfInBounds_toArray, List.set_cons_zero, List.set_cons_succ])
  refine' RL.takeC (i := 1) (v := ev) 28 #[.agg #[.int .i64 kd, .slice au nu cu, .slice aS nS cS, .slice an nn cn, .slice ab nb cb]] rfl (by kernel_rfl) (by kernel_rfl) (by kernel_rfl) (fun _ _ _ h => h) (by rfl) ?hk10 ?hc10 ?_
  case hk10 => (intro W; go_simp; try with_reducible rfl)
  case hc10 => (intro W hSW; exact (HCK.out W (HW.out.trans (hSW.mono HW.out.size)) _ _ _ _ (HIV.out.below hSW)).mono fun e w' h => ⟨h.1, h.2, RL.Aft.lat hSW h.2⟩)
  (try simp only [Act.put, List.setIfInBounds_toArray, List.set_cons_zero, List.set_cons_succ])
  refine' RL.takeC (i := 2) (v := .int .i64 (c : Int)) 16 #[ev] rfl (by kernel_rfl) (by kernel_rfl) (by kernel_rfl) (fun _ _ _ h => h) (by rfl) ?hk11 ?hc11 ?_
  case hk11 => (intro W; go_simp; try with_reducible rfl)
  case hc11 => (intro W hSW; exact (HCD.out W (HW.out.trans (hSW.mono HW.out.size))).mono fun e w' h => ⟨h.1, h.2 ▸ RL.Lat.refl _, h.2 ▸ hSW⟩)
  (try simp only [Act.put, List.setIfInBounds_toArray, List.set_cons_zero, List.set_cons_succ])
  refine RL.takeV (i := 3) (v := .agg #[.int .i64 kd, .slice au nu cu, .slice aS nS cS, .slice an nn cn, .slice ab nb cb]) rfl (by kernel_rfl) (by kernel_rfl) (by kernel_rfl) (fun _ _ _ h => h) (by rfl) (fun W hSW => RT.run_row 36 _ rfl _ rfl _ _ (HQ.out.below hSW HQ.out.lt) Tryd.underlying36 rfl (by kernel_rfl)) ?_
  (try simp only [Act.put, List.setIfInBounds_toArray, List.set_cons_zero, List.set_cons_succ])
  refine' RL.takeC (i := 4) (v := .int .i64 (c : Int)) 29 #[.agg #[.int .i64 kd, .slice au nu cu, .slice aS nS cS, .slice an nn cn, .slice ab nb cb]] rfl (by kernel_rfl) (by kernel_rfl) (by kernel_rfl) (fun _ _ _ h => h) (by rfl) ?hk12 ?hc12 ?_
  case hk12 => (intro W; go_simp; try with_reducible rfl)
  case hc12 => (intro W hSW; exact (HRC.out W _ _ _ _ (HIV.out.below hSW)).mono fun e w' h => ⟨h.1, h.2, RL.Aft.lat hSW h.2⟩)
  (try simp only [Act.put, List.setIfInBounds_toArray, List.set_cons_zero, List.set_cons_succ])
  refine' RL.takeV (i := 5) (v := _) rfl (by kernel_rfl) (by kernel_rfl) (by kernel_rfl) (fun _ _ _ h => h) (by rfl) ?hk13 ?_
  case hk13 => (intro W hSW; go_simp; try with_reducible rfl)
  (try simp only [Act.put, List.setIfInBounds_toArray, List.set_cons_zero, List.set_cons_succ])
  refine' RL.takeV (i := 6) (v := _) rfl (by kernel_rfl) (by kernel_rfl) (by kernel_rfl) (fun _ _ _ h => h) (by rfl) ?hk14 ?_
  case hk14 => (intro W hSW; go_simp; try with_reducible rfl)
  (try simp only [Act.put, List.setIfInBounds_toArray, List.set_cons_zero, List.set_cons_succ])
  refine RL.takeV (i := 7) (v := .agg #[.int .i64 kd, .slice au nu cu, .slice aS nS cS, .slice an nn cn, .slice ab nb cb]) rfl (by kernel_rfl) (by kernel_rfl) (by kernel_rfl) (fun _ _ _ h => h) (by rfl) (fun W hSW => RT.run_row 32 _ rfl _ rfl _ _ (HD.out.below hSW HD.out.lt) Tryd.underlying32 rfl (by kernel_rfl)) ?_
  (try simp only [Act.put, List.setIfInBounds_toArray, List.set_cons_zero, List.set_cons_succ])
  refine' RL.takeC (i := 8) (v := .string ⟨#[]⟩) 30 #[.agg #[.int .i64 kd, .slice au nu cu, .slice aS nS cS, .slice an nn cn, .slice ab nb cb]] rfl (by kernel_rfl) (by kernel_rfl) (by kernel_rfl) (fun _ _ _ h => h) (by rfl) ?hk15 ?hc15 ?_
  case hk15 => (intro W; go_simp; try with_reducible rfl)
  case hc15 => (intro W hSW; exact (HBY.out W (HW.out.trans (hSW.mono HW.out.size)) _ _ _ _ (HIV.out.below hSW)).mono fun e w' h => ⟨h.1, h.2, RL.Aft.lat hSW h.2⟩)
  (try simp only [Act.put, List.setIfInBounds_toArray, List.set_cons_zero, List.set_cons_succ])
  refine RL.takeV (i := 9) (v := .agg #[.int .i64 kd, .slice au nu cu, .slice aS nS cS, .slice an nn cn, .slice ab nb cb]) rfl (by kernel_rfl) (by kernel_rfl) (by kernel_rfl) (fun _ _ _ h => h) (by rfl) (fun W hSW => RT.run_row 36 _ rfl _ rfl _ _ (HQ.out.below hSW HQ.out.lt) Tryd.underlying36 rfl (by kernel_rfl)) ?_
  (try simp only [Act.put, List.setIfInBounds_toArray, List.set_cons_zero, List.set_cons_succ])
  refine' RL.takeC (i := 10) (v := .string ⟨#[]⟩) 31 #[.agg #[.int .i64 kd, .slice au nu cu, .slice aS nS cS, .slice an nn cn, .slice ab nb cb]] rfl (by kernel_rfl) (by kernel_rfl) (by kernel_rfl) (fun _ _ _ h => h) (by rfl) ?hk16 ?hc16 ?_
  case hk16 => (intro W; go_simp; try with_reducible rfl)
  case hc16 => (intro W hSW; exact (HRB.out W _ _ _ _ (HIV.out.below hSW)).mono fun e w' h => ⟨h.1, h.2, RL.Aft.lat hSW h.2⟩)
  (try simp only [Act.put, List.setIfInBounds_toArray, List.set_cons_zero, List.set_cons_succ])
  refine' RL.takeV (i := 11) (v := _) rfl (by kernel_rfl) (by kernel_rfl) (by kernel_rfl) (fun _ _ _ h => h) (by rfl) ?hk17 ?_
  case hk17 => (intro W hSW; go_simp; try with_reducible rfl)
  (try simp only [Act.put, List.setIfInBounds_toArray, List.set_cons_zero, List.set_cons_succ])
  refine' RL.takeV (i := 12) (v := _) rfl (by kernel_rfl) (by kernel_rfl) (by kernel_rfl) (fun _ _ _ h => h) (by rfl) ?hk18 ?_
  case hk18 => (intro W hSW; go_simp; try with_reducible rfl)
  (try simp only [Act.put, List.setIfInBounds_toArray, List.set_cons_zero, List.set_cons_succ])
  refine RL.done (by kernel_rfl) (fun wd hlwd hswd => ?_)
  have hSW : Below Y.heap.size Y wd := hswd
  have HWx := Lib.hid (HW.out.trans (hSW.mono HW.out.size)); clear HW; have HW := HWx; clear HWx
  have HQx := Lib.hid (HQ.out.below hSW HQ.out.lt); clear HQ; have HQ := HQx; clear HQx
  have HDx := Lib.hid (HD.out.below hSW HD.out.lt); clear HD; have HD := HDx; clear HDx
  have HIVx := Lib.hid (HIV.out.below hSW); clear HIV; have HIV := HIVx; clear HIVx
  clear hSW hswd hlwd
  go_wp2_with (first
    | (refine wpList_load_row rfl 36 _ rfl _ rfl _ _ _ _ HQ.out Tryd.underlying36 rfl (by kernel_rfl) ?_; skip)
    | (refine wpList_load_row rfl 32 _ rfl _ rfl _ _ _ _ HD.out Tryd.underlying32 rfl (by kernel_rfl) ?_; skip)
    | (go_at_call 29; refine (HRC.out _ _ _ _ _ HIV.out).mono ?_; rintro e w5 ⟨rfl, hb⟩; skip; have HWx := Lib.hid (HW.out.trans (hb.mono HW.out.size)); clear HW; have HW := HWx; clear HWx; have HQx := Lib.hid (HQ.out.below hb HQ.out.lt); clear HQ; have HQ := HQx; clear HQx; have HDx := Lib.hid (HD.out.below hb HD.out.lt); clear HD; have HD := HDx; clear HDx; have HIVx := Lib.hid (HIV.out.below hb); clear HIV; have HIV := HIVx; clear HIVx; clear hb)
    | (go_at_call 30; refine (HBY.out _ HW.out _ _ _ _ HIV.out).mono ?_; rintro e w6 ⟨rfl, hb⟩; skip; have HWx := Lib.hid (HW.out.trans (hb.mono HW.out.size)); clear HW; have HW := HWx; clear HWx; have HQx := Lib.hid (HQ.out.below hb HQ.out.lt); clear HQ; have HQ := HQx; clear HQx; have HDx := Lib.hid (HD.out.below hb HD.out.lt); clear HD; have HD := HDx; clear HDx; have HIVx := Lib.hid (HIV.out.below hb); clear HIV; have HIV := HIVx; clear HIVx; clear hb))
  go_ret
  exact ⟨by simp, HW.out⟩
theorem law_MessageBack (w : World) (m : Msg) (vu vs vn vb : Value) (hm : IsMsg w m vu vs vn vb) (hu : ∀ x ∈ m.u, x < 4294967296) (a : Nat → Addr) (hE : Ei.ErrsAll w a) (hT : TabR w) (hM : ∃ m, w.cell? ⟨22, 0, none⟩ = some (.int .i64 m)) :
    Calls Tryd.prog 7 #[.agg (mC m.kind vu vs vn vb)] w fun e w' => e = .returned (.bool true) ∧ Below w.heap.size w w' := by
  by_cases hc : checkC (few m) = 0
  · exact back0 w m vu vs vn vb hm hu a hE hT hM hc
  · exact back1 w m vu vs vn vb hm hu a hE hT hM hc
end Go.Proofs.YtjfikbnfabdkoaaDoor.Mg
