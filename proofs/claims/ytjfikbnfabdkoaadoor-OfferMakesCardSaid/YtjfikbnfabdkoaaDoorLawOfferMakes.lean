/- The law OfferMakes: the walk. -/
import Derived.Test.YtjfikbnfabdkoaaDoorOff6
import Derived.Test.YtjfikbnfabdkoaaDoorRegD
set_option linter.unusedVariables false
set_option linter.unusedSimpArgs false
namespace Go.Proofs.YtjfikbnfabdkoaaDoor.Of
open Go.RowKit Go.Proofs.YtjfikbnfabdkoaaDoor.Wi Go.Proofs.YtjfikbnfabdkoaaDoor.Ow Go.Proofs.YtjfikbnfabdkoaaDoor.Be Go.Proofs.YtjfikbnfabdkoaaDoor.Mg Go.Proofs.YtjfikbnfabdkoaaDoor.Sp
theorem few5_any (w : World) (A : Option Addr) (n c q : Nat) (hq : min n 5 = q) (hn : n ≤ c) (hc : c ≤ maxLen) : Calls Tryd.prog 11 #[.slice A n c] w fun e w' => e = .returned (.slice A q c) ∧ w = w' := by
  unfold maxLen at hc
  have mN : min (n : Int) 5 = (q : Int) := by omega
  have g1 : n ≤ 9223372036854775807 := by omega
  have g2 : q ≤ n := by omega
  have g3 : q ≤ c := by omega
  clear hq
  go_enter Tryd.func11, Tryd.ntmps11
  go_wp2_with fail
  go_ret
  exact ⟨rfl, rfl⟩
theorem sl5 {w : World} {A : Option Addr} {n c q : Nat} {xs : List ByteArray} (h : SL w (.slice A n c) (xs.map Value.string)) (hq : min n 5 = q) : SL w (.slice A q c) ((xs.take 5).map Value.string) := by
  obtain ⟨A', n', c', h1, h2, h3, h4, h5⟩ := h
  injection h1 with e1 e2 e3
  subst e1 e2 e3
  rw [List.length_map] at h2
  refine ⟨A, q, c, rfl, by rw [List.length_map, List.length_take]; omega, fun j x hx => h3 j x ?_, by omega, h5⟩
  rw [List.map_take, List.getElem?_take] at hx
  split at hx
  · exact hx
  · cases hx
theorem sl_block {w : World} {b T : Nat} {cs : Array Value} (h : Rg.Blk w b T cs) {n : Nat} (hn : cs.size = n) (hm : n ≤ 1000000) : SL w (.slice (some ⟨b, 0, none⟩) n n) cs.toList :=
  ⟨some ⟨b, 0, none⟩, n, n, rfl, by rw [← hn]; simp, fun j x hj => ⟨b, 0, rfl, h.lt, by rw [Nat.zero_add]; exact h.cell j (by simpa using hj)⟩, Nat.le_refl _, by unfold maxLen; omega⟩
theorem blk_ne {w : World} {b b' T T' : Nat} {cs cs' : Array Value} (h : Rg.Blk w b T cs) (h' : Rg.Blk w b' T' cs') (hT : T ≠ T') : b ≠ b' := fun e => by
  subst e
  have := h.symm.trans h'
  injection this with this
  injection this with _ this
  exact hT this
theorem wantMsg {w : World} {l : List UInt8} {g : Bool} {b0 b3 b5 b22 : Nat} {v0 : Value} {v1 : Value} {v2 : Value} {v3 : Value} {v4 : Value} {x0 : List ByteArray} {x1 : List ByteArray} {x2 : List ByteArray} {x3 : List ByteArray} {x4 : List ByteArray} (h0 : Rg.Blk w b0 34 #[.int .u32 0]) (h3 : Rg.Blk w b3 9 #[.string ⟨l.toArray⟩]) (h5 : Rg.Blk w b5 4 #[.bool g])
    (h22 : Rg.Blk w b22 23 #[v0, v1, v2, v2, v3, v3, v4, v4, .slice none 0 0, .slice none 0 0]) (s0 : SL w v0 (x0.map Value.string)) (s1 : SL w v1 (x1.map Value.string)) (s2 : SL w v2 (x2.map Value.string)) (s3 : SL w v3 (x3.map Value.string)) (s4 : SL w v4 (x4.map Value.string)) :
    IsMsg w (mkM l x0 x1 x2 x3 x4 g) (.slice (some ⟨b0, 0, none⟩) 1 1) (.slice (some ⟨b3, 0, none⟩) 1 1) (.slice (some ⟨b22, 0, none⟩) 10 10) (.slice (some ⟨b5, 0, none⟩) 1 1) := by
  refine ⟨sl_block h0 rfl (by decide), sl_block h3 rfl (by decide), ⟨_, sl_block h22 rfl (by decide), rfl, fun j x hj => ?_⟩, sl_block h5 rfl (by decide)⟩
  match j, hj with
  | 0, hj => simp [mkM, tenL] at hj; subst hj; exact ⟨_, rfl, s0⟩
  | 1, hj => simp [mkM, tenL] at hj; subst hj; exact ⟨_, rfl, s1⟩
  | 2, hj => simp [mkM, tenL] at hj; subst hj; exact ⟨_, rfl, s2⟩
  | 3, hj => simp [mkM, tenL] at hj; subst hj; exact ⟨_, rfl, s2⟩
  | 4, hj => simp [mkM, tenL] at hj; subst hj; exact ⟨_, rfl, s3⟩
  | 5, hj => simp [mkM, tenL] at hj; subst hj; exact ⟨_, rfl, s3⟩
  | 6, hj => simp [mkM, tenL] at hj; subst hj; exact ⟨_, rfl, s4⟩
  | 7, hj => simp [mkM, tenL] at hj; subst hj; exact ⟨_, rfl, s4⟩
  | 8, hj => simp [mkM, tenL] at hj; subst hj; exact ⟨_, rfl, SL.nil w⟩
  | 9, hj => simp [mkM, tenL] at hj; subst hj; exact ⟨_, rfl, SL.nil w⟩
  | j + 10, hj => simp [mkM, tenL] at hj
set_option maxRecDepth 20000 in
set_option maxHeartbeats 16000000 in
theorem law_OfferMakes (w : World) (l : List UInt8) (hl : l.length = 16) (v0 : Value) (v1 : Value) (v2 : Value) (v3 : Value) (v4 : Value) (x0 : List ByteArray) (x1 : List ByteArray) (x2 : List ByteArray) (x3 : List ByteArray) (x4 : List ByteArray) (s0 : SL w v0 (x0.map Value.string)) (s1 : SL w v1 (x1.map Value.string)) (s2 : SL w v2 (x2.map Value.string)) (s3 : SL w v3 (x3.map Value.string)) (s4 : SL w v4 (x4.map Value.string)) (g : Bool) (a : Nat → Addr) (hE : ErrsO w a) (hT : TabR w) :
    Calls Tryd.prog 3 #[.agg (bv l).toArray, .agg #[v0, v1, v2, v3, v4], .bool g] w fun e w' => e = .returned (.bool true) ∧ Below w.heap.size w w' := by
  have HAW := Lib.hid (show ∀ W, Below w.heap.size w W → Calls Tryd.prog 10 #[] W fun e w' => e = .returned (.bool true) ∧ Below W.heap.size W w' from fun W hW => awake13 W a (hE.below hW) (hT.below hW))
  obtain ⟨A0, n0, c0, rfl, hn0, _, hc0, hm0⟩ := id s0
  obtain ⟨q0, hq0⟩ : ∃ q, min n0 5 = q := ⟨_, rfl⟩
  have HS0 := Lib.hid (sl5 s0 hq0)
  have HF0 := Lib.hid (fun W => few5_any W A0 n0 c0 q0 hq0 hc0 hm0)
  obtain ⟨y0, hy0⟩ : ∃ y, x0.take 5 = y := ⟨_, rfl⟩
  have hyl0 : y0.length ≤ 5 := by rw [← hy0, List.length_take]; omega
  rw [hy0] at HS0
  obtain ⟨A1, n1, c1, rfl, hn1, _, hc1, hm1⟩ := id s1
  obtain ⟨q1, hq1⟩ : ∃ q, min n1 5 = q := ⟨_, rfl⟩
  have HS1 := Lib.hid (sl5 s1 hq1)
  have HF1 := Lib.hid (fun W => few5_any W A1 n1 c1 q1 hq1 hc1 hm1)
  obtain ⟨y1, hy1⟩ : ∃ y, x1.take 5 = y := ⟨_, rfl⟩
  have hyl1 : y1.length ≤ 5 := by rw [← hy1, List.length_take]; omega
  rw [hy1] at HS1
  obtain ⟨A2, n2, c2, rfl, hn2, _, hc2, hm2⟩ := id s2
  obtain ⟨q2, hq2⟩ : ∃ q, min n2 5 = q := ⟨_, rfl⟩
  have HS2 := Lib.hid (sl5 s2 hq2)
  have HF2 := Lib.hid (fun W => few5_any W A2 n2 c2 q2 hq2 hc2 hm2)
  obtain ⟨y2, hy2⟩ : ∃ y, x2.take 5 = y := ⟨_, rfl⟩
  have hyl2 : y2.length ≤ 5 := by rw [← hy2, List.length_take]; omega
  rw [hy2] at HS2
  obtain ⟨A3, n3, c3, rfl, hn3, _, hc3, hm3⟩ := id s3
  obtain ⟨q3, hq3⟩ : ∃ q, min n3 5 = q := ⟨_, rfl⟩
  have HS3 := Lib.hid (sl5 s3 hq3)
  have HF3 := Lib.hid (fun W => few5_any W A3 n3 c3 q3 hq3 hc3 hm3)
  obtain ⟨y3, hy3⟩ : ∃ y, x3.take 5 = y := ⟨_, rfl⟩
  have hyl3 : y3.length ≤ 5 := by rw [← hy3, List.length_take]; omega
  rw [hy3] at HS3
  obtain ⟨A4, n4, c4, rfl, hn4, _, hc4, hm4⟩ := id s4
  obtain ⟨q4, hq4⟩ : ∃ q, min n4 5 = q := ⟨_, rfl⟩
  have HS4 := Lib.hid (sl5 s4 hq4)
  have HF4 := Lib.hid (fun W => few5_any W A4 n4 c4 q4 hq4 hc4 hm4)
  obtain ⟨y4, hy4⟩ : ∃ y, x4.take 5 = y := ⟨_, rfl⟩
  have hyl4 : y4.length ≤ 5 := by rw [← hy4, List.length_take]; omega
  rw [hy4] at HS4
  obtain ⟨fm, hfm⟩ : ∃ fm, mkM l y0 y1 y2 y3 y4 g = fm := ⟨_, rfl⟩
  have hfk : fm.kind = 20 := by rw [← hfm]; rfl
  have HFM := Lib.hid hfm
  have HMK := Lib.hid (show ∀ W, Below w.heap.size w W → Calls Tryd.prog 12 #[.agg (bv l).toArray, .agg #[.slice A0 q0 c0, .slice A1 q1 c1, .slice A2 q2 c2, .slice A3 q3 c3, .slice A4 q4 c4], .bool g] W fun e w' => ∃ xu xs xn xb, e = .returned (.agg #[.int .i64 20, xu, xs, xn, xb]) ∧ IsMsg w' fm xu xs xn xb ∧ Below W.heap.size W w' from fun W hW => by
    have := Make_any W l hl _ _ _ _ _ _ _ _ _ _ (HS0.out.below hW) (HS1.out.below hW) (HS2.out.below hW) (HS3.out.below hW) (HS4.out.below hW) ⟨by omega, by omega, by omega, by omega, by omega⟩ g
    unfold MakePost at this
    rw [hfm] at this
    exact this)
  have HSM := Lib.hid (show ∀ W yu ys yn yb xu xs xn xb, IsMsg W fm yu ys yn yb → IsMsg W fm xu xs xn xb → Calls Tryd.prog 13 #[.agg #[.int .i64 20, yu, ys, yn, yb], .agg #[.int .i64 20, xu, xs, xn, xb]] W fun e w' => e = .returned (.bool true) ∧ Below W.heap.size W w' from fun W vu vs vn vb xu xs xn xb h1 h2 => by
    have := Same_true W fm vu vs vn vb xu xs xn xb h1 h2
    rw [hfk] at this
    exact this)
  have HRB := Lib.hid (fun (W : World) (b T : Nat) (h : Rg.Blk W b T (bv l).toArray) => rdBytes h)
  have HL := Lib.hid hl
  obtain ⟨cb, hcb⟩ : ∃ cb, (bv l).toArray = cb := ⟨_, rfl⟩
  have HCS := Lib.hid (show cb.size = 16 by rw [← hcb, List.size_toArray, bv_length]; exact hl)
  have HC1 := Lib.hid (show cb.all (·.oneCell') = true by
    rw [← hcb, List.all_toArray, List.all_eq_true]
    exact bv_cells l)
  rw [hcb] at HMK HRB ⊢
  clear hE hT hl hfm hfk hcb s0 hn0 hc0 hm0 hq0 hy0 hyl0 s1 hn1 hc1 hm1 hq1 hy1 hyl1 s2 hn2 hc2 hm2 hq2 hy2 hyl2 s3 hn3 hc3 hm3 hq3 hy3 hyl3 s4 hn4 hc4 hm4 hq4 hy4 hyl4
  have HM0 := Lib.hid (show Mem w [] ((w.alloc (.cells cb 22)).alloc (.cells #[.slice A0 n0 c0, .slice A1 n1 c1, .slice A2 n2 c2, .slice A3 n3 c3, .slice A4 n4 c4] 25)) [Sp.blk w.heap.size 22 cb, Sp.blk (w.heap.size + 1) 25 #[.slice A0 n0 c0, .slice A1 n1 c1, .slice A2 n2 c2, .slice A3 n3 c3, .slice A4 n4 c4]] by
    have h := ((Mem.start w).alloc cb 22).alloc #[.slice A0 n0 c0, .slice A1 n1 c1, .slice A2 n2 c2, .slice A3 n3 c3, .slice A4 n4 c4] 25
    rw [World.size_alloc] at h
    exact h)
  go_enter Tryd.func3, Tryd.ntmps3
  go_upto_region 4 with (go_at_call 10; refine (HAW.out _ HM0.out.bel).mono ?_; rintro e w1 ⟨rfl, hb1⟩; skip; have HM := Lib.hid (HM0.out.below hb1); clear hb1)
  have HBL := Lib.hid (HM.out.blk 1 rfl)
  refine RT.start (RL.Aft w1) 21 1 (by kernel_rfl) (by decide) rfl (by kernel_rfl) (by kernel_rfl) (RL.Aft.drew (RL.Aft.refl w1)) ?_
  refine' RT.takeV (i := 0) (v := _) rfl (by kernel_rfl) (by kernel_rfl) (by kernel_rfl) (by decide) (fun _ _ _ h => h) (by rfl) ?hk1 ?_
  case hk1 => (intro W hSW; go_simp; try with_reducible rfl)
  (try simp only [Act.put, List.setIfInBounds_toArray, List.set_cons_zero, List.set_cons_succ])
  refine' RT.takeV (i := 1) (v := _) rfl (by kernel_rfl) (by kernel_rfl) (by kernel_rfl) (by decide) (fun _ _ _ h => h) (by rfl) ?hk2 ?_
  case hk2 => (intro W hSW; go_simp; try with_reducible rfl)
  (try simp only [Act.put, List.setIfInBounds_toArray, List.set_cons_zero, List.set_cons_succ])
  refine' RT.takeV (i := 2) (v := _) rfl (by kernel_rfl) (by kernel_rfl) (by kernel_rfl) (by decide) (fun _ _ _ h => h) (by rfl) ?hk3 ?_
  case hk3 => (intro W hSW; have g := (HBL.out.below hSW HBL.out.lt).cell 0 (v := .slice A0 n0 c0) rfl; go_simp; try with_reducible rfl)
  (try simp only [Act.put, List.setIfInBounds_toArray, List.set_cons_zero, List.set_cons_succ])
  refine' RT.takeC (i := 3) (v := .slice A0 q0 c0) 11 #[.slice A0 n0 c0] rfl (by kernel_rfl) (by kernel_rfl) (by kernel_rfl) (by decide) (fun _ _ _ h => h) (by rfl) ?hk4 ?hc4 ?_
  case hk4 => (intro W hSW; go_simp; try with_reducible rfl)
  case hc4 => (intro W hSW; exact (HF0.out W).mono fun e w' h => ⟨h.1, h.2 ▸ RL.Lat.refl _, h.2 ▸ hSW⟩)
  (try simp only [Act.put, List.setIfInBounds_toArray, List.set_cons_zero, List.set_cons_succ])
  refine' RT.takeV (i := 4) (v := _) rfl (by kernel_rfl) (by kernel_rfl) (by kernel_rfl) (by decide) (fun _ _ _ h => h) (by rfl) ?hk5 ?_
  case hk5 => (intro W hSW; go_simp; try with_reducible rfl)
  (try simp only [Act.put, List.setIfInBounds_toArray, List.set_cons_zero, List.set_cons_succ])
  refine' RT.takeV (i := 5) (v := _) rfl (by kernel_rfl) (by kernel_rfl) (by kernel_rfl) (by decide) (fun _ _ _ h => h) (by rfl) ?hk6 ?_
  case hk6 => (intro W hSW; go_simp; try with_reducible rfl)
  (try simp only [Act.put, List.setIfInBounds_toArray, List.set_cons_zero, List.set_cons_succ])
  refine' RT.takeV (i := 6) (v := _) rfl (by kernel_rfl) (by kernel_rfl) (by kernel_rfl) (by decide) (fun _ _ _ h => h) (by rfl) ?hk7 ?_
  case hk7 => (intro W hSW; have g := (HBL.out.below hSW HBL.out.lt).cell 1 (v := .slice A1 n1 c1) rfl; go_simp; try with_reducible rfl)
  (try simp only [Act.put, List.setIfInBounds_toArray, List.set_cons_zero, List.set_cons_succ])
  refine' RT.takeC (i := 7) (v := .slice A1 q1 c1) 11 #[.slice A1 n1 c1] rfl (by kernel_rfl) (by kernel_rfl) (by kernel_rfl) (by decide) (fun _ _ _ h => h) (by rfl) ?hk8 ?hc8 ?_
  case hk8 => (intro W hSW; go_simp; try with_reducible rfl)
  case hc8 => (intro W hSW; exact (HF1.out W).mono fun e w' h => ⟨h.1, h.2 ▸ RL.Lat.refl _, h.2 ▸ hSW⟩)
  (try simp only [Act.put, List.setIfInBounds_toArray, List.set_cons_zero, List.set_cons_succ])
  refine' RT.takeV (i := 8) (v := _) rfl (by kernel_rfl) (by kernel_rfl) (by kernel_rfl) (by decide) (fun _ _ _ h => h) (by rfl) ?hk9 ?_
  case hk9 => (intro W hSW; go_simp; try with_reducible rfl)
  (try simp only [Act.put, List.setIfInBounds_toArray, List.set_cons_zero, List.set_cons_succ])
  refine' RT.takeV (i := 9) (v := _) rfl (by kernel_rfl) (by kernel_rfl) (by kernel_rfl) (by decide) (fun _ _ _ h => h) (by rfl) ?hk10 ?_
  case hk10 => (intro W hSW; go_simp; try with_reducible rfl)
  (try simp only [Act.put, List.setIfInBounds_toArray, List.set_cons_zero, List.set_cons_succ])
  refine' RT.takeV (i := 10) (v := _) rfl (by kernel_rfl) (by kernel_rfl) (by kernel_rfl) (by decide) (fun _ _ _ h => h) (by rfl) ?hk11 ?_
  case hk11 => (intro W hSW; have g := (HBL.out.below hSW HBL.out.lt).cell 2 (v := .slice A2 n2 c2) rfl; go_simp; try with_reducible rfl)
  (try simp only [Act.put, List.setIfInBounds_toArray, List.set_cons_zero, List.set_cons_succ])
  refine' RT.takeC (i := 11) (v := .slice A2 q2 c2) 11 #[.slice A2 n2 c2] rfl (by kernel_rfl) (by kernel_rfl) (by kernel_rfl) (by decide) (fun _ _ _ h => h) (by rfl) ?hk12 ?hc12 ?_
  case hk12 => (intro W hSW; go_simp; try with_reducible rfl)
  case hc12 => (intro W hSW; exact (HF2.out W).mono fun e w' h => ⟨h.1, h.2 ▸ RL.Lat.refl _, h.2 ▸ hSW⟩)
  (try simp only [Act.put, List.setIfInBounds_toArray, List.set_cons_zero, List.set_cons_succ])
  refine' RT.takeV (i := 12) (v := _) rfl (by kernel_rfl) (by kernel_rfl) (by kernel_rfl) (by decide) (fun _ _ _ h => h) (by rfl) ?hk13 ?_
  case hk13 => (intro W hSW; go_simp; try with_reducible rfl)
  (try simp only [Act.put, List.setIfInBounds_toArray, List.set_cons_zero, List.set_cons_succ])
  refine' RT.takeV (i := 13) (v := _) rfl (by kernel_rfl) (by kernel_rfl) (by kernel_rfl) (by decide) (fun _ _ _ h => h) (by rfl) ?hk14 ?_
  case hk14 => (intro W hSW; go_simp; try with_reducible rfl)
  (try simp only [Act.put, List.setIfInBounds_toArray, List.set_cons_zero, List.set_cons_succ])
  refine' RT.takeV (i := 14) (v := _) rfl (by kernel_rfl) (by kernel_rfl) (by kernel_rfl) (by decide) (fun _ _ _ h => h) (by rfl) ?hk15 ?_
  case hk15 => (intro W hSW; have g := (HBL.out.below hSW HBL.out.lt).cell 3 (v := .slice A3 n3 c3) rfl; go_simp; try with_reducible rfl)
  (try simp only [Act.put, List.setIfInBounds_toArray, List.set_cons_zero, List.set_cons_succ])
  refine' RT.takeC (i := 15) (v := .slice A3 q3 c3) 11 #[.slice A3 n3 c3] rfl (by kernel_rfl) (by kernel_rfl) (by kernel_rfl) (by decide) (fun _ _ _ h => h) (by rfl) ?hk16 ?hc16 ?_
  case hk16 => (intro W hSW; go_simp; try with_reducible rfl)
  case hc16 => (intro W hSW; exact (HF3.out W).mono fun e w' h => ⟨h.1, h.2 ▸ RL.Lat.refl _, h.2 ▸ hSW⟩)
  (try simp only [Act.put, List.setIfInBounds_toArray, List.set_cons_zero, List.set_cons_succ])
  refine' RT.takeV (i := 16) (v := _) rfl (by kernel_rfl) (by kernel_rfl) (by kernel_rfl) (by decide) (fun _ _ _ h => h) (by rfl) ?hk17 ?_
  case hk17 => (intro W hSW; go_simp; try with_reducible rfl)
  (try simp only [Act.put, List.setIfInBounds_toArray, List.set_cons_zero, List.set_cons_succ])
  refine' RT.takeV (i := 17) (v := _) rfl (by kernel_rfl) (by kernel_rfl) (by kernel_rfl) (by decide) (fun _ _ _ h => h) (by rfl) ?hk18 ?_
  case hk18 => (intro W hSW; go_simp; try with_reducible rfl)
  (try simp only [Act.put, List.setIfInBounds_toArray, List.set_cons_zero, List.set_cons_succ])
  refine' RT.takeV (i := 18) (v := _) rfl (by kernel_rfl) (by kernel_rfl) (by kernel_rfl) (by decide) (fun _ _ _ h => h) (by rfl) ?hk19 ?_
  case hk19 => (intro W hSW; have g := (HBL.out.below hSW HBL.out.lt).cell 4 (v := .slice A4 n4 c4) rfl; go_simp; try with_reducible rfl)
  (try simp only [Act.put, List.setIfInBounds_toArray, List.set_cons_zero, List.set_cons_succ])
  refine' RT.takeC (i := 19) (v := .slice A4 q4 c4) 11 #[.slice A4 n4 c4] rfl (by kernel_rfl) (by kernel_rfl) (by kernel_rfl) (by decide) (fun _ _ _ h => h) (by rfl) ?hk20 ?hc20 ?_
  case hk20 => (intro W hSW; go_simp; try with_reducible rfl)
  case hc20 => (intro W hSW; exact (HF4.out W).mono fun e w' h => ⟨h.1, h.2 ▸ RL.Lat.refl _, h.2 ▸ hSW⟩)
  (try simp only [Act.put, List.setIfInBounds_toArray, List.set_cons_zero, List.set_cons_succ])
  refine' RT.takeV (i := 20) (v := _) rfl (by kernel_rfl) (by kernel_rfl) (by kernel_rfl) (by decide) (fun _ _ _ h => h) (by rfl) ?hk21 ?_
  case hk21 => (intro W hSW; go_simp; try with_reducible rfl)
  (try simp only [Act.put, List.setIfInBounds_toArray, List.set_cons_zero, List.set_cons_succ])
  refine RT.tail (by kernel_rfl) rfl rfl ?_
  intro wd hlwd hswd
  have HMD := Lib.hid (HM.out.below (show Below w1.heap.size w1 wd from hswd))
  clear hlwd hswd HM HBL HM0
  refine Cv.store_blk rfl 25 _ _ rfl (w.heap.size + 1) #[.slice A0 q0 c0, .slice A1 q1 c1, .slice A2 q2 c2, .slice A3 q3 c3, .slice A4 q4 c4] #[.slice A0 n0 c0, .slice A1 n1 c1, .slice A2 n2 c2, .slice A3 n3 c3, .slice A4 n4 c4] 25 rfl rfl (HMD.out.blk 1 rfl) (by kernel_rfl) rfl (by simp [Value.oneCell']) ?_
  intro V hV hgV
  have hmv := HMD.out.store 1 rfl hV hgV
  simp only [List.set_cons_zero, List.set_cons_succ] at hmv
  have HM := Lib.hid hmv
  clear hV hgV hmv HMD
  have HB0 := Lib.hid (HM.out.blk 0 rfl)
  have HB1 := Lib.hid (HM.out.blk 1 rfl)
  have HIZ := Lib.hid (show (Tryd.prog.info? 22).map (·.size) = some 16 by kernel_rfl)
  go_upto_region 6 with (first
    | (refine wpList_load_row rfl 22 _ rfl _ rfl _ _ _ _ HB0.out Tryd.underlying22 rfl (by rw [HCS.out]; exact HIZ.out) ?_; skip)
    | (refine wpList_load_row rfl 25 _ rfl _ rfl _ _ _ _ HB1.out Tryd.underlying25 rfl (by kernel_rfl) ?_; skip)
    | (go_at_call 12; refine (HMK.out _ HM.out.bel).mono ?_; rintro e w2 ⟨xu, xs, xn, xb, rfl, hm, hb2⟩
       obtain ⟨au, nu, cu, rfl, _⟩ := hm.u
       obtain ⟨aS, nS, cS, rfl, _⟩ := hm.s
       obtain ⟨vns, ⟨an, nn, cn, rfl, _⟩, _⟩ := hm.n
       obtain ⟨ab, nb, cb2, rfl, _⟩ := hm.b
       have HI := Lib.hid hm
       have HMx := Lib.hid (HM.out.below hb2); clear HM; have HM := HMx; clear HMx
       clear hm hb2)
    | (refine Rg.store_fresh rfl 32 _ _ rfl #[.int .i64 20, .slice au nu cu, .slice aS nS cS, .slice an nn cn, .slice ab nb cb2] _ 32 rfl rfl (by kernel_rfl) rfl (by simp [Value.oneCell']) ?_
       intro Y hY hbY
       have HD := Lib.hid hY; have HIx := Lib.hid (HI.out.below hbY); clear HI; have HI := HIx; clear HIx; have HMx := Lib.hid (HM.out.below hbY); clear HM; have HM := HMx; clear HMx
       clear hY hbY))
  clear HB0 HB1
  generalize w2.heap.size = P2 at *
  have HB0 := Lib.hid (HM.out.blk 0 rfl)
  have HB1 := Lib.hid (HM.out.blk 1 rfl)
  refine RD.start (RL.Aft Y) [37, 38, 39, 40, 41, 42, 43, 44, 45, 46, 47, 48, 49, 50, 51, 52, 53, 54, 55, 56, 57, 58, 59, 60, 9] (fun i => match i with | 0 => (fun v W => ∃ b, v = .slice (some ⟨b, 0, none⟩) 1 1 ∧ Rg.Blk W b 34 #[.int .u32 0]) | 1 => (fun v _ => v = .slice (some ⟨w.heap.size, 0, none⟩) 16 16) | 2 => (fun v _ => v = .string ⟨l.toArray⟩) | 3 => (fun v W => ∃ b, v = .slice (some ⟨b, 0, none⟩) 1 1 ∧ Rg.Blk W b 9 #[.string ⟨l.toArray⟩]) | 4 => (fun v _ => v = .bool g) | 5 => (fun v W => ∃ b, v = .slice (some ⟨b, 0, none⟩) 1 1 ∧ Rg.Blk W b 4 #[.bool g]) | 6 => (fun v _ => v = .pointer (some ⟨w.heap.size + 1, 0, none⟩)) | 7 => (fun v _ => v = .slice A0 q0 c0) | 8 => (fun v _ => v = .pointer (some ⟨w.heap.size + 1, 1, none⟩)) | 9 => (fun v _ => v = .slice A1 q1 c1) | 10 => (fun v _ => v = .pointer (some ⟨w.heap.size + 1, 2, none⟩)) | 11 => (fun v _ => v = .slice A2 q2 c2) | 12 => (fun v _ => v = .pointer (some ⟨w.heap.size + 1, 2, none⟩)) | 13 => (fun v _ => v = .slice A2 q2 c2) | 14 => (fun v _ => v = .pointer (some ⟨w.heap.size + 1, 3, none⟩)) | 15 => (fun v _ => v = .slice A3 q3 c3) | 16 => (fun v _ => v = .pointer (some ⟨w.heap.size + 1, 3, none⟩)) | 17 => (fun v _ => v = .slice A3 q3 c3) | 18 => (fun v _ => v = .pointer (some ⟨w.heap.size + 1, 4, none⟩)) | 19 => (fun v _ => v = .slice A4 q4 c4) | 20 => (fun v _ => v = .pointer (some ⟨w.heap.size + 1, 4, none⟩)) | 21 => (fun v _ => v = .slice A4 q4 c4) | 22 => (fun v W => ∃ b, v = .slice (some ⟨b, 0, none⟩) 10 10 ∧ Rg.Blk W b 23 #[.slice A0 q0 c0, .slice A1 q1 c1, .slice A2 q2 c2, .slice A2 q2 c2, .slice A3 q3 c3, .slice A3 q3 c3, .slice A4 q4 c4, .slice A4 q4 c4, .slice none 0 0, .slice none 0 0]) | 23 => (fun v W => ∃ b0 b3 b5 b22, v = .agg #[.int .i64 20, .slice (some ⟨b0, 0, none⟩) 1 1, .slice (some ⟨b3, 0, none⟩) 1 1, .slice (some ⟨b22, 0, none⟩) 10 10, .slice (some ⟨b5, 0, none⟩) 1 1] ∧ Rg.Blk W b0 34 #[.int .u32 0] ∧ Rg.Blk W b3 9 #[.string ⟨l.toArray⟩] ∧ Rg.Blk W b5 4 #[.bool g] ∧ Rg.Blk W b22 23 #[.slice A0 q0 c0, .slice A1 q1 c1, .slice A2 q2 c2, .slice A2 q2 c2, .slice A3 q3 c3, .slice A3 q3 c3, .slice A4 q4 c4, .slice A4 q4 c4, .slice none 0 0, .slice none 0 0]) | 24 => (fun v W => ∃ b, v = .pointer (some ⟨b, 0, none⟩) ∧ Rg.Blk W b 36 #[.int .i64 0, .slice none 0 0, .slice none 0 0, .slice none 0 0, .slice none 0 0] ∧ Y.heap.size ≤ b) | _ => fun _ _ => True) 25 1 64 (by kernel_rfl) (by kernel_rfl) rfl (by kernel_rfl) (by kernel_rfl) rfl (by kernel_rfl) rfl (RL.Aft.drew (RL.Aft.refl Y)) ?hphi ?hstep ?hend
  case hphi =>
    intro i v w1 w2 h hl hs
    match i, h with
    | 0, h => exact (by obtain ⟨b, e, hb⟩ := h; exact ⟨b, e, hb.below hl hb.lt⟩)
    | 1, h => exact h
    | 2, h => exact h
    | 3, h => exact (by obtain ⟨b, e, hb⟩ := h; exact ⟨b, e, hb.below hl hb.lt⟩)
    | 4, h => exact h
    | 5, h => exact (by obtain ⟨b, e, hb⟩ := h; exact ⟨b, e, hb.below hl hb.lt⟩)
    | 6, h => exact h
    | 7, h => exact h
    | 8, h => exact h
    | 9, h => exact h
    | 10, h => exact h
    | 11, h => exact h
    | 12, h => exact h
    | 13, h => exact h
    | 14, h => exact h
    | 15, h => exact h
    | 16, h => exact h
    | 17, h => exact h
    | 18, h => exact h
    | 19, h => exact h
    | 20, h => exact h
    | 21, h => exact h
    | 22, h => exact (by obtain ⟨b, e, hb⟩ := h; exact ⟨b, e, hb.below hl hb.lt⟩)
    | 23, h => exact (by obtain ⟨b0, b3, b5, b22, e, h0, h3, h5, h22⟩ := h; exact ⟨b0, b3, b5, b22, e, h0.below hl h0.lt, h3.below hl h3.lt, h5.below hl h5.lt, h22.below hl h22.lt⟩)
    | 24, h => exact (by obtain ⟨b, e, hb, hy⟩ := h; exact ⟨b, e, hb.below hl hb.lt, hy⟩)
    | _ + 25, _ => exact trivial
  case hstep =>
    intro i hi
    match i, hi with
    | 0, _ =>
      refine RD.StepOk.mk rfl ?_
      intro a W hA hS hd K hK
      clear hd
      go_simp
      exact hK.out _ _ ((Below.refl _ _).alloc (Nat.le_refl _) _) (RL.Aft.alloc hS _) ⟨_, rfl, Rg.Blk.new _ _ _⟩
    | 1, _ =>
      refine RD.StepOk.mk rfl ?_
      intro a W hA hS hd K hK
      have o3 : a.tmps[3]?.getD undef = .pointer (some ⟨w.heap.size, 0, none⟩) := (Array.getD_eq_getD_getElem? ..).symm.trans (hA.eval 3 (by decide) rfl)
      clear hd
      go_simp
      exact hK.out _ _ (RL.Lat.refl _) hS rfl
    | 2, _ =>
      refine RD.StepOk.mk rfl ?_
      intro a W hA hS hd K hK
      have d38 : a.tmps[38]?.getD undef = .slice (some ⟨w.heap.size, 0, none⟩) 16 16 := (Array.getD_eq_getD_getElem? ..).symm.trans (hd 1 (by kernel_rfl))
      have g := run_str (P := Tryd.prog) W 35 5 9 Tryd.underlying35 Tryd.underlying5 Tryd.underlying9 (c := 16) HL.out (HRB.out W _ _ (HB0.out.below hS HB0.out.lt))
      clear hd
      go_simp
      exact hK.out _ _ (RL.Lat.refl _) hS rfl
    | 3, _ =>
      refine RD.StepOk.mk rfl ?_
      intro a W hA hS hd K hK
      have d39 : a.tmps[39]?.getD undef = .string ⟨l.toArray⟩ := (Array.getD_eq_getD_getElem? ..).symm.trans (hd 2 (by kernel_rfl))
      clear hd
      go_simp
      exact hK.out _ _ ((Below.refl _ _).alloc (Nat.le_refl _) _) (RL.Aft.alloc hS _) ⟨_, rfl, Rg.Blk.new _ _ _⟩
    | 4, _ =>
      refine RD.StepOk.mk rfl ?_
      intro a W hA hS hd K hK
      have o2 : a.tmps[2]?.getD undef = .bool g := (Array.getD_eq_getD_getElem? ..).symm.trans (hA.eval 2 (by decide) rfl)
      clear hd
      go_simp
      exact hK.out _ _ (RL.Lat.refl _) hS rfl
    | 5, _ =>
      refine RD.StepOk.mk rfl ?_
      intro a W hA hS hd K hK
      have d41 : a.tmps[41]?.getD undef = .bool g := (Array.getD_eq_getD_getElem? ..).symm.trans (hd 4 (by kernel_rfl))
      clear hd
      go_simp
      exact hK.out _ _ ((Below.refl _ _).alloc (Nat.le_refl _) _) (RL.Aft.alloc hS _) ⟨_, rfl, Rg.Blk.new _ _ _⟩
    | 6, _ =>
      refine RD.StepOk.mk rfl ?_
      intro a W hA hS hd K hK
      have o4 : a.tmps[4]?.getD undef = .pointer (some ⟨w.heap.size + 1, 0, none⟩) := (Array.getD_eq_getD_getElem? ..).symm.trans (hA.eval 4 (by decide) rfl)
      clear hd
      go_simp
      exact hK.out _ _ (RL.Lat.refl _) hS rfl
    | 7, _ =>
      refine RD.StepOk.mk rfl ?_
      intro a W hA hS hd K hK
      have d43 : a.tmps[43]?.getD undef = .pointer (some ⟨w.heap.size + 1, 0, none⟩) := (Array.getD_eq_getD_getElem? ..).symm.trans (hd 6 (by kernel_rfl))
      have g := (HB1.out.below hS HB1.out.lt).cell 0 (v := .slice A0 q0 c0) rfl
      clear hd
      go_simp
      exact hK.out _ _ (RL.Lat.refl _) hS rfl
    | 8, _ =>
      refine RD.StepOk.mk rfl ?_
      intro a W hA hS hd K hK
      have o4 : a.tmps[4]?.getD undef = .pointer (some ⟨w.heap.size + 1, 0, none⟩) := (Array.getD_eq_getD_getElem? ..).symm.trans (hA.eval 4 (by decide) rfl)
      clear hd
      go_simp
      exact hK.out _ _ (RL.Lat.refl _) hS rfl
    | 9, _ =>
      refine RD.StepOk.mk rfl ?_
      intro a W hA hS hd K hK
      have d45 : a.tmps[45]?.getD undef = .pointer (some ⟨w.heap.size + 1, 1, none⟩) := (Array.getD_eq_getD_getElem? ..).symm.trans (hd 8 (by kernel_rfl))
      have g := (HB1.out.below hS HB1.out.lt).cell 1 (v := .slice A1 q1 c1) rfl
      clear hd
      go_simp
      exact hK.out _ _ (RL.Lat.refl _) hS rfl
    | 10, _ =>
      refine RD.StepOk.mk rfl ?_
      intro a W hA hS hd K hK
      have o4 : a.tmps[4]?.getD undef = .pointer (some ⟨w.heap.size + 1, 0, none⟩) := (Array.getD_eq_getD_getElem? ..).symm.trans (hA.eval 4 (by decide) rfl)
      clear hd
      go_simp
      exact hK.out _ _ (RL.Lat.refl _) hS rfl
    | 11, _ =>
      refine RD.StepOk.mk rfl ?_
      intro a W hA hS hd K hK
      have d47 : a.tmps[47]?.getD undef = .pointer (some ⟨w.heap.size + 1, 2, none⟩) := (Array.getD_eq_getD_getElem? ..).symm.trans (hd 10 (by kernel_rfl))
      have g := (HB1.out.below hS HB1.out.lt).cell 2 (v := .slice A2 q2 c2) rfl
      clear hd
      go_simp
      exact hK.out _ _ (RL.Lat.refl _) hS rfl
    | 12, _ =>
      refine RD.StepOk.mk rfl ?_
      intro a W hA hS hd K hK
      have o4 : a.tmps[4]?.getD undef = .pointer (some ⟨w.heap.size + 1, 0, none⟩) := (Array.getD_eq_getD_getElem? ..).symm.trans (hA.eval 4 (by decide) rfl)
      clear hd
      go_simp
      exact hK.out _ _ (RL.Lat.refl _) hS rfl
    | 13, _ =>
      refine RD.StepOk.mk rfl ?_
      intro a W hA hS hd K hK
      have d49 : a.tmps[49]?.getD undef = .pointer (some ⟨w.heap.size + 1, 2, none⟩) := (Array.getD_eq_getD_getElem? ..).symm.trans (hd 12 (by kernel_rfl))
      have g := (HB1.out.below hS HB1.out.lt).cell 2 (v := .slice A2 q2 c2) rfl
      clear hd
      go_simp
      exact hK.out _ _ (RL.Lat.refl _) hS rfl
    | 14, _ =>
      refine RD.StepOk.mk rfl ?_
      intro a W hA hS hd K hK
      have o4 : a.tmps[4]?.getD undef = .pointer (some ⟨w.heap.size + 1, 0, none⟩) := (Array.getD_eq_getD_getElem? ..).symm.trans (hA.eval 4 (by decide) rfl)
      clear hd
      go_simp
      exact hK.out _ _ (RL.Lat.refl _) hS rfl
    | 15, _ =>
      refine RD.StepOk.mk rfl ?_
      intro a W hA hS hd K hK
      have d51 : a.tmps[51]?.getD undef = .pointer (some ⟨w.heap.size + 1, 3, none⟩) := (Array.getD_eq_getD_getElem? ..).symm.trans (hd 14 (by kernel_rfl))
      have g := (HB1.out.below hS HB1.out.lt).cell 3 (v := .slice A3 q3 c3) rfl
      clear hd
      go_simp
      exact hK.out _ _ (RL.Lat.refl _) hS rfl
    | 16, _ =>
      refine RD.StepOk.mk rfl ?_
      intro a W hA hS hd K hK
      have o4 : a.tmps[4]?.getD undef = .pointer (some ⟨w.heap.size + 1, 0, none⟩) := (Array.getD_eq_getD_getElem? ..).symm.trans (hA.eval 4 (by decide) rfl)
      clear hd
      go_simp
      exact hK.out _ _ (RL.Lat.refl _) hS rfl
    | 17, _ =>
      refine RD.StepOk.mk rfl ?_
      intro a W hA hS hd K hK
      have d53 : a.tmps[53]?.getD undef = .pointer (some ⟨w.heap.size + 1, 3, none⟩) := (Array.getD_eq_getD_getElem? ..).symm.trans (hd 16 (by kernel_rfl))
      have g := (HB1.out.below hS HB1.out.lt).cell 3 (v := .slice A3 q3 c3) rfl
      clear hd
      go_simp
      exact hK.out _ _ (RL.Lat.refl _) hS rfl
    | 18, _ =>
      refine RD.StepOk.mk rfl ?_
      intro a W hA hS hd K hK
      have o4 : a.tmps[4]?.getD undef = .pointer (some ⟨w.heap.size + 1, 0, none⟩) := (Array.getD_eq_getD_getElem? ..).symm.trans (hA.eval 4 (by decide) rfl)
      clear hd
      go_simp
      exact hK.out _ _ (RL.Lat.refl _) hS rfl
    | 19, _ =>
      refine RD.StepOk.mk rfl ?_
      intro a W hA hS hd K hK
      have d55 : a.tmps[55]?.getD undef = .pointer (some ⟨w.heap.size + 1, 4, none⟩) := (Array.getD_eq_getD_getElem? ..).symm.trans (hd 18 (by kernel_rfl))
      have g := (HB1.out.below hS HB1.out.lt).cell 4 (v := .slice A4 q4 c4) rfl
      clear hd
      go_simp
      exact hK.out _ _ (RL.Lat.refl _) hS rfl
    | 20, _ =>
      refine RD.StepOk.mk rfl ?_
      intro a W hA hS hd K hK
      have o4 : a.tmps[4]?.getD undef = .pointer (some ⟨w.heap.size + 1, 0, none⟩) := (Array.getD_eq_getD_getElem? ..).symm.trans (hA.eval 4 (by decide) rfl)
      clear hd
      go_simp
      exact hK.out _ _ (RL.Lat.refl _) hS rfl
    | 21, _ =>
      refine RD.StepOk.mk rfl ?_
      intro a W hA hS hd K hK
      have d57 : a.tmps[57]?.getD undef = .pointer (some ⟨w.heap.size + 1, 4, none⟩) := (Array.getD_eq_getD_getElem? ..).symm.trans (hd 20 (by kernel_rfl))
      have g := (HB1.out.below hS HB1.out.lt).cell 4 (v := .slice A4 q4 c4) rfl
      clear hd
      go_simp
      exact hK.out _ _ (RL.Lat.refl _) hS rfl
    | 22, _ =>
      refine RD.StepOk.mk rfl ?_
      intro a W hA hS hd K hK
      have d44 : a.tmps[44]?.getD undef = .slice A0 q0 c0 := (Array.getD_eq_getD_getElem? ..).symm.trans (hd 7 (by kernel_rfl))
      have d46 : a.tmps[46]?.getD undef = .slice A1 q1 c1 := (Array.getD_eq_getD_getElem? ..).symm.trans (hd 9 (by kernel_rfl))
      have d48 : a.tmps[48]?.getD undef = .slice A2 q2 c2 := (Array.getD_eq_getD_getElem? ..).symm.trans (hd 11 (by kernel_rfl))
      have d50 : a.tmps[50]?.getD undef = .slice A2 q2 c2 := (Array.getD_eq_getD_getElem? ..).symm.trans (hd 13 (by kernel_rfl))
      have d52 : a.tmps[52]?.getD undef = .slice A3 q3 c3 := (Array.getD_eq_getD_getElem? ..).symm.trans (hd 15 (by kernel_rfl))
      have d54 : a.tmps[54]?.getD undef = .slice A3 q3 c3 := (Array.getD_eq_getD_getElem? ..).symm.trans (hd 17 (by kernel_rfl))
      have d56 : a.tmps[56]?.getD undef = .slice A4 q4 c4 := (Array.getD_eq_getD_getElem? ..).symm.trans (hd 19 (by kernel_rfl))
      have d58 : a.tmps[58]?.getD undef = .slice A4 q4 c4 := (Array.getD_eq_getD_getElem? ..).symm.trans (hd 21 (by kernel_rfl))
      clear hd
      go_simp
      exact hK.out _ _ ((Below.refl _ _).alloc (Nat.le_refl _) _) (RL.Aft.alloc hS _) ⟨_, rfl, Rg.Blk.new _ _ _⟩
    | 23, _ =>
      refine RD.StepOk.mk rfl ?_
      intro a W hA hS hd K hK
      obtain ⟨b0, d37x, B0⟩ := hd 0 (by kernel_rfl)
      have d37 : a.tmps[37]?.getD undef = .slice (some ⟨b0, 0, none⟩) 1 1 := (Array.getD_eq_getD_getElem? ..).symm.trans d37x
      clear d37x
      obtain ⟨b3, d40x, B3⟩ := hd 3 (by kernel_rfl)
      have d40 : a.tmps[40]?.getD undef = .slice (some ⟨b3, 0, none⟩) 1 1 := (Array.getD_eq_getD_getElem? ..).symm.trans d40x
      clear d40x
      obtain ⟨b5, d42x, B5⟩ := hd 5 (by kernel_rfl)
      have d42 : a.tmps[42]?.getD undef = .slice (some ⟨b5, 0, none⟩) 1 1 := (Array.getD_eq_getD_getElem? ..).symm.trans d42x
      clear d42x
      obtain ⟨b22, d59x, B22⟩ := hd 22 (by kernel_rfl)
      have d59 : a.tmps[59]?.getD undef = .slice (some ⟨b22, 0, none⟩) 10 10 := (Array.getD_eq_getD_getElem? ..).symm.trans d59x
      clear d59x
      clear hd
      go_simp
      exact hK.out _ _ (RL.Lat.refl _) hS ⟨b0, b3, b5, b22, rfl, B0, B3, B5, B22⟩
    | 24, _ =>
      refine RD.StepOk.mk rfl ?_
      intro a W hA hS hd K hK
      clear hd
      go_simp
      exact hK.out _ _ ((Below.refl _ _).alloc (Nat.le_refl _) _) (RL.Aft.alloc hS _) ⟨_, rfl, Rg.Blk.new _ _ _, Below.size hS⟩
    | i + 25, h => exact absurd h (by omega)
  case hend =>
    intro a W hA hS hv
    have hW : Below Y.heap.size Y W := hS
    obtain ⟨b0, b3, b5, b22, e60, h0, h3, h5, h22⟩ := hv 23 (by decide)
    obtain ⟨b24, e9, h24, hy24⟩ := hv 24 (by decide)
    have e60 : a.tmps.getD 60 undef = .agg #[.int .i64 20, .slice (some ⟨b0, 0, none⟩) 1 1, .slice (some ⟨b3, 0, none⟩) 1 1, .slice (some ⟨b22, 0, none⟩) 10 10, .slice (some ⟨b5, 0, none⟩) 1 1] := e60
    have e9 : a.tmps.getD 9 undef = .pointer (some ⟨b24, 0, none⟩) := e9
    have hform := hA.form
    clear hv hA
    iterate 25 rw [List.foldl_cons] at hform
    rw [List.foldl_nil] at hform
    rw [e60, e9] at hform
    generalize a.tmps.getD 37 undef = u37x at hform
    generalize a.tmps.getD 38 undef = u38x at hform
    generalize a.tmps.getD 39 undef = u39x at hform
    generalize a.tmps.getD 40 undef = u40x at hform
    generalize a.tmps.getD 41 undef = u41x at hform
    generalize a.tmps.getD 42 undef = u42x at hform
    generalize a.tmps.getD 43 undef = u43x at hform
    generalize a.tmps.getD 44 undef = u44x at hform
    generalize a.tmps.getD 45 undef = u45x at hform
    generalize a.tmps.getD 46 undef = u46x at hform
    generalize a.tmps.getD 47 undef = u47x at hform
    generalize a.tmps.getD 48 undef = u48x at hform
    generalize a.tmps.getD 49 undef = u49x at hform
    generalize a.tmps.getD 50 undef = u50x at hform
    generalize a.tmps.getD 51 undef = u51x at hform
    generalize a.tmps.getD 52 undef = u52x at hform
    generalize a.tmps.getD 53 undef = u53x at hform
    generalize a.tmps.getD 54 undef = u54x at hform
    generalize a.tmps.getD 55 undef = u55x at hform
    generalize a.tmps.getD 56 undef = u56x at hform
    generalize a.tmps.getD 57 undef = u57x at hform
    generalize a.tmps.getD 58 undef = u58x at hform
    generalize a.tmps.getD 59 undef = u59x at hform
    rw [hform]
    simp only [Act.put, List.setIfInBounds_toArray, List.set_cons_zero, List.set_cons_succ]
    clear hform e60 e9
    have HWB := Lib.hid (And.intro h0 (And.intro h3 (And.intro h5 h22)))
    have HZ := Lib.hid h24
    have HYB := Lib.hid hy24
    have HYW := Lib.hid hW
    clear h0 h3 h5 h22 h24 hW hS hy24
    refine Cv.store_blk rfl 36 _ _ rfl b24 #[.int .i64 20, .slice (some ⟨b0, 0, none⟩) 1 1, .slice (some ⟨b3, 0, none⟩) 1 1, .slice (some ⟨b22, 0, none⟩) 10 10, .slice (some ⟨b5, 0, none⟩) 1 1] #[.int .i64 0, .slice none 0 0, .slice none 0 0, .slice none 0 0, .slice none 0 0] 36 rfl rfl HZ.out (by kernel_rfl) rfl (by simp [Value.oneCell']) ?_
    intro U hU hgU
    have HQ := Lib.hid hU
    have HUB := Lib.hid (HYW.out.grown hgU HYW.out.size (fun k hk => by cases hk; exact HYB.out))
    have HIU := Lib.hid (HI.out.below HUB.out)
    have HDU := Lib.hid (HD.out.below HUB.out HD.out.lt)
    have HWU := Lib.hid (HM.out.bel.trans (HUB.out.mono HM.out.bel.size))
    obtain ⟨h0, h3, h5, h22⟩ := HWB.out
    have hwm := wantMsg (l := l) (g := g) (blk_grown h0 hgU (blk_ne h0 HZ.out (by decide))) (blk_grown h3 hgU (blk_ne h3 HZ.out (by decide))) (blk_grown h5 hgU (blk_ne h5 HZ.out (by decide))) (blk_grown h22 hgU (blk_ne h22 HZ.out (by decide))) (HS0.out.below HWU.out) (HS1.out.below HWU.out) (HS2.out.below HWU.out) (HS3.out.below HWU.out) (HS4.out.below HWU.out)
    rw [HFM.out] at hwm
    have HWM := Lib.hid hwm
    clear h0 h3 h5 h22 hwm hU hgU HWB HZ HYB HYW
    go_wp2_with (first
      | (refine wpList_load_row rfl 32 _ rfl _ rfl _ _ _ _ HDU.out Tryd.underlying32 rfl (by kernel_rfl) ?_; skip)
      | (refine wpList_load_row rfl 36 _ rfl _ rfl _ _ _ _ HQ.out Tryd.underlying36 rfl (by kernel_rfl) ?_; skip)
      | (go_at_call 13; refine (HSM.out _ _ _ _ _ _ _ _ _ HIU.out HWM.out).mono ?_; rintro e w9 ⟨rfl, hb9⟩; skip; have HF := Lib.hid (HWU.out.trans (hb9.mono HWU.out.size)); clear hb9))
    go_ret
    exact ⟨by simp, HF.out⟩
end Go.Proofs.YtjfikbnfabdkoaaDoor.Of
