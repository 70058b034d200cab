/- The curve's Mult. -/
import Derived.Test.YtfaeigbfnjkojaaGreatDoorKxS
set_option linter.unusedVariables false
set_option linter.unusedSimpArgs false
namespace Go.Proofs.YtfaeigbfnjkojaaGreatDoor.Kx
open Go.RowKit Go.Proofs.YtfaeigbfnjkojaaGreatDoor.Cl
/-- a scalar's bytes, as Mult takes them -/
def clampB (l : List UInt8) : List UInt8 :=
  let m := l.set 0 (l.getD 0 0 &&& 248)
  m.set 31 (m.getD 31 0 &&& 63 ||| 64)
theorem clampB_len (l : List UInt8) : (clampB l).length = l.length := by unfold clampB; simp
/-- what Mult makes of a scalar and a point -/
def mulK (k p : List UInt8) : E := finK (lad ((clampB k).map UInt8.toNat) (ofB p) 255)
theorem andNot7 (x : UInt8) : bits .andNot .u8 (x.toNat : Int) 7 = ((x &&& 248).toNat : Int) := by
  have h := u8_andNot_nat x.toNat 7 x.toNat_lt (by decide)
  rw [show ((7 : Nat) : Int) = 7 from rfl] at h
  rw [h, UInt8.toNat_and]; rfl
theorem and63 (x : UInt8) : bits .and .u8 (x.toNat : Int) 63 = ((x &&& 63).toNat : Int) := by
  have h := u8_and_nat x.toNat 63 x.toNat_lt (by decide)
  rw [show ((63 : Nat) : Int) = 63 from rfl] at h
  rw [h, UInt8.toNat_and]; rfl
theorem or64 (x : UInt8) : bits .or .u8 (x.toNat : Int) 64 = ((x ||| 64).toNat : Int) := by
  have h := u8_or_nat x.toNat 64 x.toNat_lt (by decide)
  rw [show ((64 : Nat) : Int) = 64 from rfl] at h
  rw [h, UInt8.toNat_or]; rfl
def P.z1 : P := ⟨small 1, ⟨0, 0, 0, 0, 0⟩⟩
theorem lad_zero (ks : List Nat) (x : E) : lad ks x 0 = ⟨⟨small 1, ⟨0, 0, 0, 0, 0⟩⟩, ⟨x, small 1⟩, false⟩ := rfl
theorem lad_succ (ks : List Nat) (x : E) (k : Nat) (s : St) (hs : lad ks x k = s) (is : Bool) (hi : bitK ks (254 - k) = is) :
    lad ks x (k + 1) = ⟨(stepP x (if (is != s.was) = true then s.b else s.a) (if (is != s.was) = true then s.a else s.b)).1, (stepP x (if (is != s.was) = true then s.b else s.a) (if (is != s.was) = true then s.a else s.b)).2, is⟩ := by
  subst hs hi
  rw [lad]
  cases lad ks x k with
  | mk a b was =>
  cases h1 : bitK ks (254 - k) <;> cases was <;> simp
theorem sq_ok (x : E) : (sq x).ok := mul_ok x x
theorem bit_is (cl : List UInt8) (m : Nat) (h : m / 8 < cl.length) : bitK (cl.map UInt8.toNat) m = ((((cl.getD (m / 8) 0).toNat / 2 ^ (m % 8) % 2 : Nat) : Int) == 1) := by
  unfold bitK
  have e : (cl.map UInt8.toNat).getD (m / 8) 0 = (cl.getD (m / 8) 0).toNat := by
    rw [List.getD_eq_getElem?_getD, List.getD_eq_getElem?_getD, List.getElem?_map, List.getElem?_eq_getElem h]; rfl
  rw [e]
  generalize (cl.getD (m / 8) 0).toNat / 2 ^ (m % 8) % 2 = z
  rw [Bool.eq_iff_iff, beq_iff_eq, beq_iff_eq]
  omega
def St.ok (s : St) : Prop := s.a.ok ∧ s.b.ok
theorem stepP_ok (x : E) (p q : P) : (stepP x p q).1.ok ∧ (stepP x p q).2.ok := by
  simp only [stepP, P.ok]
  exact ⟨⟨mul_ok _ _, mul_ok _ _⟩, ⟨sq_ok _, mul_ok _ _⟩⟩
theorem lad_ok (ks : List Nat) (x : E) (hx : x.ok) : ∀ k, (lad ks x k).ok
  | 0 => ⟨⟨small_ok 1 (by decide), E.ok5 (by decide) (by decide) (by decide) (by decide) (by decide)⟩, ⟨hx, small_ok 1 (by decide)⟩⟩
  | k + 1 => by
    rw [lad_succ ks x k _ rfl _ rfl]
    exact stepP_ok _ _ _
theorem results_cell_slot {P : Program} {fn : Func} {p q : Tmp} {ty : TypeId} (h : fn.results = #[.cell p ty, .tmp q]) (tmps : Array Value) (w : World) (g : Nat) (t : TypeId) (cs : Array Value) (fr : Nat × Nat) (d : TypeDesc) (v : Value)
    (hp : tmps.getD p undef = .pointer (some ⟨g, 0, none⟩)) (hv : tmps.getD q undef = v) (hg : w.heap[g]? = some (.cells cs t fr))
    (hu : P.underlying ty = some d) (hd : (match d with | .struct _ | .array _ _ => true | _ => false) = true) (hi : (P.info? ty).map (·.size) = some cs.size) :
    (results fn tmps).run P w = .ok (.tuple #[.agg cs, v]) w := by
  have hp' : tmps[p]?.getD undef = .pointer (some ⟨g, 0, none⟩) := by simpa using hp
  have hv' : tmps[q]?.getD undef = v := by simpa using hv
  simp [results, h, hp', hv', asAddr, run_loadVar_row w g t ty cs fr d hg hu hd hi]
theorem below_upd {B : Nat} {w X Y : World} {s : List Nat} (h : Below B w X) (hu : Sp.Upd X Y s) (hs : ∀ k ∈ s, B ≤ k) (hB : B ≤ X.heap.size) : Below B w Y :=
  h.trans ⟨hu.os, hu.tape, hu.output, hu.size, fun k hk => hu.block k (by omega) (fun hm => by have := hs k hm; omega)⟩
theorem upd_blk {X W : World} {s : List Nat} {b T : Nat} {cs : Array Value} (h : Sp.Upd X W s) (hr : Rg.Blk X b T cs) (hb : b ∉ s) : Rg.Blk W b T cs := by
  have hl := hr.lt
  unfold Rg.Blk at *
  rw [h.block b hl hb]; exact hr
theorem aft_blk {X W : World} {b T : Nat} {cs : Array Value} (h : RL.Aft X W) (hr : Rg.Blk X b T cs) : Rg.Blk W b T cs := hr.below h hr.lt
set_option maxRecDepth 20000 in
set_option maxHeartbeats 2000000 in
theorem Mult_any (w : World) (k p : List UInt8) (hk : k.length = 32) (hp : p.length = 32) :
    Calls Tryz.prog 9 #[.agg (Cv.bytesV k), .agg (Cv.bytesV p)] w fun e w' => e = .returned (.tuple #[.agg (Cv.bytesV (bytesE (mulK k p))), .bool (!zero (mulK k p))]) ∧ Below w.heap.size w w' := by
  obtain ⟨x, ex⟩ : ∃ x, ofB p = x := ⟨_, rfl⟩
  have HOX := Lib.hid (show x.ok from ex ▸ ofB_ok p)
  have HCO := Lib.hid (fun W => show Calls Tryz.prog 20 #[.string ⟨p.toArray⟩] W fun e w' => e = .returned (.agg (u64s x.l)) ∧ Below W.heap.size W w' from ex ▸ Of_any W ⟨p.toArray⟩ (by show p.toArray.size = 32; simp [hp]))
  obtain ⟨k0, hk0⟩ : ∃ v, k.getD 0 0 = v := ⟨_, rfl⟩
  obtain ⟨k1, hk1⟩ : ∃ v, k0 &&& 248 = v := ⟨_, rfl⟩
  obtain ⟨j0, hj0⟩ : ∃ v, (k.set 0 k1).getD 31 0 = v := ⟨_, rfl⟩
  obtain ⟨j1, hj1⟩ : ∃ v, j0 &&& 63 = v := ⟨_, rfl⟩
  obtain ⟨j2, hj2⟩ : ∃ v, j1 ||| 64 = v := ⟨_, rfl⟩
  have EK := Lib.hid (show bits .andNot .u8 (k0.toNat : Int) 7 = (k1.toNat : Int) from hk1 ▸ andNot7 k0)
  have EJ := Lib.hid (show bits .and .u8 (j0.toNat : Int) 63 = (j1.toNat : Int) from hj1 ▸ and63 j0)
  have EJ2 := Lib.hid (show bits .or .u8 (j1.toNat : Int) 64 = (j2.toNat : Int) from hj2 ▸ or64 j1)
  have HCK := Lib.hid (show (Cv.bytesV k)[0]? = some (.int .u8 (k0.toNat : Int)) from Cv.bytesV_get _ _ _ (by rw [← hk0, List.getD_eq_getElem?_getD, List.getElem?_eq_getElem (by omega)]; rfl))
  have HCJ := Lib.hid (show (Cv.bytesV (k.set 0 k1))[31]? = some (.int .u8 (j0.toNat : Int)) from Cv.bytesV_get _ _ _ (by rw [← hj0, List.getD_eq_getElem?_getD, List.getElem?_eq_getElem (by rw [List.length_set]; omega)]; rfl))
  have HLEN := Lib.hid (show ∀ v, (k.set 0 v).length = 32 from fun v => by rw [List.length_set, hk])
  have HLEN0 := Lib.hid hk
  obtain ⟨cl, hcl⟩ : ∃ c, (k.set 0 k1).set 31 j2 = c := ⟨_, rfl⟩
  have HCL := Lib.hid hcl
  have HCLL := Lib.hid (show cl.length = 32 from by rw [← hcl, List.length_set, List.length_set, hk])
  have HRES := Lib.hid (show mulK k p = finK (lad (cl.map UInt8.toNat) x 255) from by rw [mulK, ex, ← hcl, ← hj2, ← hj1, ← hj0, ← hk1, ← hk0]; rfl)
  have HPS := Lib.hid (show (Cv.bytesV p).size = 32 by rw [Cv.bytesV_size, hp])
  have HKS := Lib.hid (show (Cv.bytesV k).size = 32 by rw [Cv.bytesV_size, hk])
  have HPL := Lib.hid hp
  clear ex hk0 hk1 hj0 hj1 hj2 hcl hp hk
  go_enter Tryz.func9, Tryz.ntmps9
  have tok1 := True.intro
  go_upto_region 1 with (first
    | (have _t := tok1; (with_reducible refine gate_ ?_); refine Rg.box_fresh rfl 22 _ rfl (Cv.bytesV k) rfl ?_; intro X hX hbX hnX; have HX := Lib.hid hX; have HBX := Lib.hid hbX; have HNX := Lib.hid hnX; clear hX hbX hnX; have tok2 := True.intro; clear _t tok1)
    | (have _t := tok2; (with_reducible refine gate_ ?_); refine Rg.box_fresh rfl 22 _ rfl (Cv.bytesV p) rfl ?_; intro X2 hX hbX hnX; have HX2 := Lib.hid hX; have HBX2 := Lib.hid hbX; have HNX2 := Lib.hid hnX; clear hX hbX hnX; clear _t tok2))
  obtain ⟨kb, hkb⟩ : ∃ n, w.heap.size = n := ⟨_, rfl⟩
  obtain ⟨pp, hpp⟩ : ∃ n, X.heap.size = n := ⟨_, rfl⟩
  obtain ⟨rb, hrb⟩ : ∃ n, X2.heap.size = n := ⟨_, rfl⟩
  rw [← zero32]
  have HK := Lib.hid (show Rg.Blk (X2.alloc (.cells (Cv.bytesV (toLe 32 (0 % 2 ^ 0))) 22)) kb 22 (Cv.bytesV k) from ((hkb ▸ HX.out).below HBX2.out (by rw [← hkb]; exact HX.out.lt)).alloc _)
  have HPp := Lib.hid (show Rg.Blk (X2.alloc (.cells (Cv.bytesV (toLe 32 (0 % 2 ^ 0))) 22)) pp 22 (Cv.bytesV p) from (hpp ▸ HX2.out).alloc _)
  have HZ := Lib.hid (show Rg.Blk (X2.alloc (.cells (Cv.bytesV (toLe 32 (0 % 2 ^ 0))) 22)) rb 22 (Cv.bytesV (toLe 32 (0 % 2 ^ 0))) from Rg.Blk.newAt hrb.symm _ _)
  have HB := Lib.hid (show Below kb w (X2.alloc (.cells (Cv.bytesV (toLe 32 (0 % 2 ^ 0))) 22)) from hkb ▸ (HBX.out.trans (HBX2.out.mono HBX.out.size)).alloc (Nat.le_trans HBX.out.size HBX2.out.size) _)
  have HN := Lib.hid (show kb ≠ pp ∧ kb ≠ rb ∧ pp ≠ rb ∧ kb ≤ pp ∧ kb ≤ rb from by have h1 := HNX.out; have h2 := HNX2.out; refine ⟨?_, ?_, ?_, ?_, ?_⟩ <;> omega)
  have HKB := Lib.hid hkb
  try rw [hkb]
  try rw [hpp]
  try rw [hrb]
  generalize X2.alloc (.cells (Cv.bytesV (toLe 32 (0 % 2 ^ 0))) 22) = Y at *
  clear HX HBX HNX HX2 HBX2 HNX2 hkb hpp hrb
  have c0 := HK.out.cell 0 HCK.out
  have ek := EK.out
  go_upto_region 2 with ((with_reducible refine gate_ ?_); refine Cv.store_byte rfl 5 _ _ rfl (b := kb) (j := 0) (l := k) (v := k1) rfl rfl Tryz.underlying5 (by kernel_rfl) HK.out (by rw [HLEN0.out]; decide) ?_; intro Y1 hV hgV; have HVY1 := Lib.hid hV; have HGY1 := Lib.hid hgV; clear hV hgV)
  have HB := Lib.hid (HB.out.grown HGY1.out (HB.out.size_le HKB.out) (fun j e => by cases e; exact Nat.le_refl _))
  have HPp := Lib.hid (blk_other HPp.out HGY1.out HN.out.1)
  have HZ := Lib.hid (blk_other HZ.out HGY1.out HN.out.2.1)
  clear c0 ek HK
  have c1 := HVY1.out.cell 31 HCJ.out
  have ek := EJ.out
  have ek2 := EJ2.out
  go_upto_region 3 with ((with_reducible refine gate_ ?_); refine Cv.store_byte rfl 5 _ _ rfl (b := kb) (j := 31) (l := k.set 0 k1) (v := j2) rfl rfl Tryz.underlying5 (by kernel_rfl) HVY1.out (by rw [HLEN.out]; decide) ?_; intro Y2 hV hgV; have HVY2 := Lib.hid hV; have HGY2 := Lib.hid hgV; clear hV hgV)
  have HB := Lib.hid (HB.out.grown HGY2.out (HB.out.size_le HKB.out) (fun j e => by cases e; exact Nat.le_refl _))
  have HPp := Lib.hid (blk_other HPp.out HGY2.out HN.out.1)
  have HZ := Lib.hid (blk_other HZ.out HGY2.out HN.out.2.1)
  have HK := Lib.hid (show Rg.Blk Y2 kb 22 (Cv.bytesV cl) from by rw [← HCL.out]; exact HVY2.out)
  clear c1 ek ek2 HVY1 HVY2 HGY1 HGY2 EK EJ EJ2 HCK HCJ HCL
  go_upto_region 4 with (first
    | ((with_reducible refine gate_ ?_); refine Cv.conv_string rfl 36 5 9 _ rfl Tryz.underlying36 Tryz.underlying5 Tryz.underlying9 pp 0 32 32 p rfl HPL.out (Cv.Bytes.of_blk HPp.out) ?_; skip)
    | (go_at_call 20; refine (HCO.out _).mono ?_; rintro e w9 ⟨rfl, hb9⟩; skip; have HB9 := Lib.hid hb9; clear hb9)
    | (refine Rg.store_fresh rfl 53 _ _ rfl (u64s x.l) _ 53 rfl rfl (by rw [u64s_size]; kernel_rfl) rfl (u64s_one _) ?_; intro Y3 hX hbX; have HX3 := Lib.hid hX; have HA := Lib.hid (show RL.Aft Y2 Y3 from Below.trans HB9.out (Below.mono hbX HB9.out.size)); clear hX hbX))
  obtain ⟨b6, hb6⟩ : ∃ n, w9.heap.size = n := ⟨_, rfl⟩
  have Hb6 := Lib.hid (show kb ≤ b6 ∧ rb < b6 from by have h1 := HB9.out.size; have h2 := HB.out.size_le HKB.out; have h3 := HZ.out.lt; omega)
  have Rb6 := Lib.hid (show Row Y3 b6 53 x.l from hb6 ▸ HX3.out)
  try rw [hb6]
  clear hb6 HX3 HB9 HPp
  have HK := Lib.hid (aft_blk HA.out HK.out)
  have HZ := Lib.hid (aft_blk HA.out HZ.out)
  have HB := Lib.hid (Below.trans HB.out (Below.mono HA.out (HB.out.size_le HKB.out)))
  clear HA
  obtain ⟨m1, em1⟩ : ∃ y, small 1 = y := ⟨_, rfl⟩
  have Cm1 := Lib.hid (fun W => show Calls Tryz.prog 21 #[.int .u64 1] W fun e w' => e = .returned (.agg (u64s m1.l)) ∧ Below W.heap.size W w' from em1 ▸ Small_any W 1 (by decide))
  have EM1 := Lib.hid em1
  clear em1
  go_upto_region 4 with fail
  refine RL.start (RL.Aft Y3) (by kernel_rfl) (RL.Aft.drew (RL.Aft.refl Y3)) ?_
  refine' RL.takeC (i := 0) (v := .agg (u64s (m1).l)) 21 #[.int .u64 1] rfl (by kernel_rfl) (by kernel_rfl) (by kernel_rfl) (fun _ _ _ h => h) (by rfl) ?hk1 ?hc1 ?_
  case hk1 => (intro W; go_simp; try with_reducible rfl)
  case hc1 => (intro W hSW; exact (Cm1.out W).mono (fun e w9 h9 => ⟨h9.1, h9.2, RL.Aft.lat hSW h9.2⟩))
  (try simp only [Act.put, List.setIfInBounds_toArray, List.set_cons_zero, List.set_cons_succ])
  refine RL.takeV (i := 1) (v := .agg (u64s (E.mk 0 0 0 0 0).l)) rfl (by kernel_rfl) (by kernel_rfl) (by kernel_rfl) (fun _ _ _ h => h) (by rfl) (fun W hSW => by go_simp; rfl) ?_
  (try simp only [Act.put, List.setIfInBounds_toArray, List.set_cons_zero, List.set_cons_succ])
  refine RL.takeV (i := 2) (v := .agg (u64s ((m1).l ++ ((E.mk 0 0 0 0 0)).l))) rfl (by kernel_rfl) (by kernel_rfl) (by kernel_rfl) (fun _ _ _ h => h) (by rfl) (fun W hSW => run_build_op 57 _ rfl #[(0, .agg (u64s (m1).l)), (1, .agg (u64s ((E.mk 0 0 0 0 0)).l))] (by go_simp) _ (built_pt _ _)) ?_
  (try simp only [Act.put, List.setIfInBounds_toArray, List.set_cons_zero, List.set_cons_succ])
  refine RL.takeV (i := 3) (v := .agg (u64s (x).l)) rfl (by kernel_rfl) (by kernel_rfl) (by kernel_rfl) (fun _ _ _ h => h) (by rfl) (fun W hSW => run_at 53 _ rfl b6 0 rfl (u64s (x).l) (el_at (aft_row hSW Rb6.out)) Tryz.underlying53 rfl (by kernel_rfl)) ?_
  (try simp only [Act.put, List.setIfInBounds_toArray, List.set_cons_zero, List.set_cons_succ])
  refine' RL.takeC (i := 4) (v := .agg (u64s (m1).l)) 21 #[.int .u64 1] rfl (by kernel_rfl) (by kernel_rfl) (by kernel_rfl) (fun _ _ _ h => h) (by rfl) ?hk2 ?hc2 ?_
  case hk2 => (intro W; go_simp; try with_reducible rfl)
  case hc2 => (intro W hSW; exact (Cm1.out W).mono (fun e w9 h9 => ⟨h9.1, h9.2, RL.Aft.lat hSW h9.2⟩))
  (try simp only [Act.put, List.setIfInBounds_toArray, List.set_cons_zero, List.set_cons_succ])
  refine RL.takeV (i := 5) (v := .agg (u64s ((x).l ++ (m1).l))) rfl (by kernel_rfl) (by kernel_rfl) (by kernel_rfl) (fun _ _ _ h => h) (by rfl) (fun W hSW => run_build_op 57 _ rfl #[(0, .agg (u64s (x).l)), (1, .agg (u64s (m1).l))] (by go_simp) _ (built_pt _ _)) ?_
  (try simp only [Act.put, List.setIfInBounds_toArray, List.set_cons_zero, List.set_cons_succ])
  refine RL.alloc2 (i := 6) (j := 7) 57 57 (#[.int .u64 0, .int .u64 0, .int .u64 0, .int .u64 0, .int .u64 0, .int .u64 0, .int .u64 0, .int .u64 0, .int .u64 0, .int .u64 0] : Array Value) (#[.int .u64 0, .int .u64 0, .int .u64 0, .int .u64 0, .int .u64 0, .int .u64 0, .int .u64 0, .int .u64 0, .int .u64 0, .int .u64 0] : Array Value) rfl rfl (by kernel_rfl) (by kernel_rfl) (by kernel_rfl) (by decide) (by decide) (fun _ => rfl) (fun _ => rfl) (fun _ _ => by go_simp; try rfl) (fun _ _ => by go_simp; try rfl) (fun _ _ h => RL.Aft.alloc h _) ?_
  intro b7 b8 wv hlwv hswv hnewv hz1wv hz2wv hB1 hB2
  have HNEwv := Lib.hid hnewv
  have Hb7 := Lib.hid (show Y3.heap.size ≤ b7 from by simpa using hz1wv)
  have Hb8 := Lib.hid (show Y3.heap.size ≤ b8 from by simpa using hz2wv)
  clear hnewv hz1wv hz2wv hlwv
  (try simp only [Act.put, List.setIfInBounds_toArray, List.set_cons_zero, List.set_cons_succ])
  refine RL.stepK (i := 8) rfl (by kernel_rfl) (by rfl) (fun va hlva hsva K hK => ?_)
  have hA := hB1.below hlva hB1.lt
  have hB := hB2.below hlva hB2.lt
  refine store_blk_op 57 _ _ rfl b7 (u64s (P.mk m1 ⟨0, 0, 0, 0, 0⟩).l) (#[.int .u64 0, .int .u64 0, .int .u64 0, .int .u64 0, .int .u64 0, .int .u64 0, .int .u64 0, .int .u64 0, .int .u64 0, .int .u64 0] : Array Value) 57 rfl rfl hA (by kernel_rfl) rfl (u64s_one _) ?_
  intro Y hY hgY
  have hB := blk_other hB hgY HNEwv.out
  refine hK.out _ _ (Below.grown hsva hgY (Below.size hsva) (fun k hk => by cases hk; exact Hb7.out)) ?_
  clear hK
  (try simp only [Act.put, List.setIfInBounds_toArray, List.set_cons_zero, List.set_cons_succ])
  refine RL.stepK (i := 9) rfl (by kernel_rfl) (by rfl) (fun vb hlvb hsvb K hK => ?_)
  refine store_blk_op 57 _ _ rfl b8 (u64s (P.mk x m1).l) (#[.int .u64 0, .int .u64 0, .int .u64 0, .int .u64 0, .int .u64 0, .int .u64 0, .int .u64 0, .int .u64 0, .int .u64 0, .int .u64 0] : Array Value) 57 rfl rfl (hB.below hlvb hB.lt) (by kernel_rfl) rfl (u64s_one _) ?_
  intro Y2 hY2 hgY2
  have hY := blk_other (hY.below hlvb hY.lt) hgY2 (fun e => HNEwv.out e.symm)
  refine hK.out _ _ (Below.grown hsvb hgY2 (Below.size hsvb) (fun k hk => by cases hk; exact Hb8.out)) ?_
  clear hK
  (try simp only [Act.put, List.setIfInBounds_toArray, List.set_cons_zero, List.set_cons_succ])
  refine RL.done (by kernel_rfl) (fun Y4 hlY4 hsY4 => ?_)
  have HA := Lib.hid (show RL.Aft Y3 Y4 from hsY4)
  have Rb7 := Lib.hid (show Row Y4 b7 57 (P.mk m1 ⟨0, 0, 0, 0, 0⟩).l from hY.below hlY4 hY.lt)
  have Rb8 := Lib.hid (show Row Y4 b8 57 (P.mk x m1).l from hY2.below hlY4 hY2.lt)
  clear hsY4 hlY4 hY hgY hsva hlva hsvb hlvb hB hA hY2 hgY2 hB1 hB2
  have N7 := Lib.hid (show b7 ≠ b8 ∧ b7 ≠ b6 ∧ b8 ≠ b6 ∧ b7 ≠ kb ∧ b8 ≠ kb ∧ b7 ≠ rb ∧ b8 ≠ rb ∧ kb ≤ b7 ∧ kb ≤ b8 from by
    have h1 := Hb7.out; have h2 := Hb8.out; have h3 := HK.out.lt; have h4 := HZ.out.lt; have h5 := Rb6.out.lt; have h6 := HNEwv.out; have h7 := HB.out.size_le HKB.out
    refine ⟨h6, ?_, ?_, ?_, ?_, ?_, ?_, ?_, ?_⟩ <;> omega)
  have HK := Lib.hid (aft_blk HA.out HK.out)
  have HZ := Lib.hid (aft_blk HA.out HZ.out)
  have Rb6 := Lib.hid (aft_row HA.out Rb6.out)
  have HB := Lib.hid (Below.trans HB.out (Below.mono HA.out (HB.out.size_le HKB.out)))
  clear HA Hb7 Hb8 Hb6 HNEwv
  obtain ⟨ks, eks⟩ : ∃ l, cl.map UInt8.toNat = l := ⟨_, rfl⟩
  rw [eks] at HRES
  have HKS := Lib.hid eks
  clear eks
  have Rb7 := Lib.hid (show Row Y4 b7 57 (lad ks x 0).a.l from by rw [lad_zero, EM1.out]; exact Rb7.out)
  have Rb8 := Lib.hid (show Row Y4 b8 57 (lad ks x 0).b.l from by rw [lad_zero, EM1.out]; exact Rb8.out)
  go_upto_region 7 with fail
  clear hY hswv
  go_loopw [9, 10] (fun ww i wr => ∃ k : Nat, k ≤ 255 ∧ i = .int .i64 (254 - (k : Int)) ∧ ww = .bool (lad ks x k).was ∧ Row wr b7 57 (lad ks x k).a.l ∧ Row wr b8 57 (lad ks x k).b.l ∧ Row wr b6 53 x.l ∧ Rg.Blk wr kb 22 (Cv.bytesV cl) ∧ Rg.Blk wr rb 22 (Cv.bytesV (toLe 32 (0 % 2 ^ 0))) ∧ Below kb w wr) (fun _ i _ => (intOf i + 1).toNat)
  case atStart => exact ⟨0, Nat.zero_le _, rfl, rfl, Rb7.out, Rb8.out, Rb6.out, HK.out, HZ.out, HB.out⟩
  case round =>
    obtain ⟨k, hk, rfl, rfl, ha, hb, hx, hkk, hz, hbb⟩ := hrel
    clear Rb7 Rb8 Rb6 HK HZ HB
    have Rb7 := Lib.hid ha
    have Rb8 := Lib.hid hb
    have Rb6 := Lib.hid hx
    have HK := Lib.hid hkk
    have HZ := Lib.hid hz
    have HB := Lib.hid hbb
    clear ha hb hx hkk hz hbb
    have HSO := Lib.hid (lad_ok ks x HOX.out k)
    have HSU := Lib.hid (lad_succ ks x k)
    by_cases hk5 : k < 255
    · obtain ⟨m, hm⟩ : ∃ m, 254 - k = m := ⟨_, rfl⟩
      have hmz : (254 : Int) - (k : Int) = (m : Int) := by omega
      obtain ⟨st, hst⟩ : ∃ s, lad ks x k = s := ⟨_, rfl⟩
      have HSU := Lib.hid (HSU.out st hst)
      rw [hst] at Rb7 Rb8 HSO
      rw [hst, hmz]
      have HM := Lib.hid (show k + 1 ≤ 255 ∧ (m : Int) - 1 = 254 - ((k + 1 : Nat) : Int) from by omega)
      rw [hm] at HSU
      have HMZ := Lib.hid hmz
      clear hst hmz
      have hd : decide ((0 : Int) ≤ (m : Int)) = true := by simp
      have hm0 : (0 : Int) ≤ (m : Int) := by omega
      obtain ⟨q, hq⟩ : ∃ q, m / 8 = q := ⟨_, rfl⟩
      obtain ⟨r, hr⟩ : ∃ r, m % 8 = r := ⟨_, rfl⟩
      have hq32 : q < 32 := by omega
      have hq0 : (0 : Int) ≤ (q : Int) := by omega
      have hqz : (q : Int) < 32 := by omega
      have hr0 : (0 : Int) ≤ (r : Int) := by omega
      have hr64 : min r 8 = r := by omega
      have eq1 : IntKind.i64.wrap ((m : Int) / 8) = (q : Int) := by rw [show (m : Int) / 8 = (q : Int) by omega]; exact wrapI (by omega)
      have er : (m : Int).tmod 8 = (r : Int) := by rw [Int.tmod_eq_emod_of_nonneg (by omega)]; omega
      obtain ⟨b, hb⟩ : ∃ b : UInt8, cl.getD q 0 = b := ⟨_, rfl⟩
      have cb := HK.out.cell q (Cv.bytesV_get cl q b (by rw [← hb, List.getD_eq_getElem?_getD, List.getElem?_eq_getElem (by rw [HCLL.out]; exact hq32)]; rfl))
      obtain ⟨bn, hbn⟩ : ∃ n, b.toNat = n := ⟨_, rfl⟩
      have hb256 : bn < 256 := by rw [← hbn]; exact b.toNat_lt
      rw [hbn] at cb
      obtain ⟨c, hc⟩ : ∃ c, bn / 2 ^ r = c := ⟨_, rfl⟩
      have hc256 : c < 256 := by rw [← hc]; exact Nat.lt_of_le_of_lt (Nat.div_le_self _ _) hb256
      have esr : (bn : Int) / 2 ^ r = (c : Int) := by rw [← hc]; simp
      obtain ⟨d, hd2⟩ : ∃ d, c % 2 = d := ⟨_, rfl⟩
      have ean : bits .and .u8 (c : Int) 1 = (d : Int) := by rw [← hd2, ← Nat.and_one_is_mod]; exact u8_and_nat c 1 hc256 (by decide)
      obtain ⟨is, his⟩ : ∃ t, ((d : Int) == 1) = t := ⟨_, rfl⟩
      have HBI := Lib.hid (show bitK ks m = is from by
        rw [← his, ← hd2, ← hc, ← hbn, ← hb, ← hq, ← hr, ← HKS.out]
        exact bit_is cl m (by rw [HCLL.out]; omega))
      have HSU := Lib.hid (HSU.out is HBI.out)
      obtain ⟨st2, hst2⟩ : ∃ s, lad ks x (k + 1) = s := ⟨_, rfl⟩
      rw [hst2] at HSU
      have HST2 := Lib.hid hst2
      clear hst2 hb hbn hb256 hc hc256 hd2 hq hr hq32
      go_upto_region 10 with fail
      clear cb esr ean eq1 er hr64 hqz hq0 hr0
      go_upto_region 11 with (go_at_call 22; refine (swap_any _ _ b7 b8 st.a st.b Rb7.out Rb8.out N7.out.1).mono ?_; rintro e W1 ⟨⟨v1, rfl⟩, ha, hb, hu⟩; skip; have Ra := Lib.hid ha; have Rb := Lib.hid hb; have HU1 := Lib.hid hu; clear ha hb hu)
      clear hd
      have HB1 := Lib.hid (below_upd HB.out HU1.out (by intro z hz; have := N7.out; simp at hz; omega) (HB.out.size_le HKB.out))
      have Rb6 := Lib.hid (upd_row HU1.out Rb6.out (by have := N7.out; simp; omega))
      have HK := Lib.hid (upd_blk HU1.out HK.out (by have := N7.out; simp; omega))
      have HZ := Lib.hid (upd_blk HU1.out HZ.out (by have := N7.out; simp; omega))
      have HSU := Lib.hid (show lad ks x (k + 1) = ⟨(stepP x (if (!is == st.was) = true then st.b else st.a) (if (!is == st.was) = true then st.a else st.b)).1, (stepP x (if (!is == st.was) = true then st.b else st.a) (if (!is == st.was) = true then st.a else st.b)).2, is⟩ from HST2.out.trans HSU.out)
      obtain ⟨fa, hfa⟩ : ∃ z : P, (if (!is == st.was) = true then st.b else st.a) = z := ⟨_, rfl⟩
      obtain ⟨fb, hfb⟩ : ∃ z : P, (if (!is == st.was) = true then st.a else st.b) = z := ⟨_, rfl⟩
      rw [hfa] at Ra HSU
      rw [hfb] at Rb HSU
      clear hfa hfb Rb7 Rb8 HB HU1 HST2 HBI
      go_wp2_with (first
        | ((with_reducible refine gate_ ?_); refine Cv.load_cells rfl 53 _ rfl b6 0 rfl (u64s x.l) _ (fun j v hv => by rw [Nat.zero_add]; exact Rg.Blk.cell (row_blk Rb6.out) j hv) Tryz.underlying53 rfl (by rw [u64s_size]; kernel_rfl) ?_; skip)
        | (go_at_call 23; refine (step_any _ x HOX.out b7 b8 fa fb Ra.out Rb.out N7.out.1).mono ?_; rintro e W2 ⟨⟨v2, rfl⟩, ha, hb, hu⟩; skip; have Ra2 := Lib.hid ha; have Rb2 := Lib.hid hb; have HU2 := Lib.hid hu; clear ha hb hu))
      have HB2 := Lib.hid (below_upd HB1.out HU2.out (by intro z hz; have := N7.out; simp at hz; omega) (HB1.out.size_le HKB.out))
      have Rb6 := Lib.hid (upd_row HU2.out Rb6.out (by have := N7.out; simp; omega))
      have HK := Lib.hid (upd_blk HU2.out HK.out (by have := N7.out; simp; omega))
      have HZ := Lib.hid (upd_blk HU2.out HZ.out (by have := N7.out; simp; omega))
      go_roundw
      case rel =>
        have REL := Lib.hid (show ∃ k' : Nat, k' ≤ 255 ∧ Value.int .i64 ((m : Int) - 1) = .int .i64 (254 - (k' : Int)) ∧ Value.bool is = .bool (lad ks x k').was ∧ Row W2 b7 57 (lad ks x k').a.l ∧ Row W2 b8 57 (lad ks x k').b.l ∧ Row W2 b6 53 x.l ∧ Rg.Blk W2 kb 22 (Cv.bytesV cl) ∧ Rg.Blk W2 rb 22 (Cv.bytesV (toLe 32 (0 % 2 ^ 0))) ∧ Below kb w W2 from ⟨k + 1, HM.out.1, congrArg _ HM.out.2, by rw [HSU.out], by rw [HSU.out]; exact Ra2.out, by rw [HSU.out]; exact Rb2.out, Rb6.out, HK.out, HZ.out, HB2.out⟩)
        first
          | exact REL.out
          | ((repeat apply Exists.intro); refine ⟨?_, rfl⟩; exact REL.out)
      case measure => (first | (simp [intOf]; done) | (simp [intOf]; omega))
    · obtain rfl : k = 255 := by omega
      clear HSU
      obtain ⟨st, hst⟩ : ∃ s, lad ks x 255 = s := ⟨_, rfl⟩
      rw [hst] at Rb7 Rb8 HSO HRES
      rw [hst]
      clear hst
      obtain ⟨g, hg⟩ : ∃ z : P, (if st.was = true then st.b else st.a) = z := ⟨_, rfl⟩
      have HGO := Lib.hid (show g.ok from by rw [← hg]; cases st.was; exact HSO.out.1; exact HSO.out.2)
      obtain ⟨iz, eiz⟩ : ∃ z, inv g.z = z := ⟨_, rfl⟩
      obtain ⟨o, eo⟩ : ∃ z, mul g.x iz = z := ⟨_, rfl⟩
      have HRES2 := Lib.hid (show finK st = o from by unfold finK; rw [hg, ← eo, ← eiz])
      have Ciz := Lib.hid (fun W => show Calls Tryz.prog 25 #[.agg (u64s g.z.l)] W fun e w' => e = .returned (.agg (u64s iz.l)) ∧ Below W.heap.size W w' from eiz ▸ Invert_any W g.z HGO.out.2)
      have Co := Lib.hid (fun W => show Calls Tryz.prog 24 #[.agg (u64s g.x.l), .agg (u64s iz.l)] W fun e w' => e = .returned (.agg (u64s o.l)) ∧ Below W.heap.size W w' from eo ▸ Mul_any W g.x iz HGO.out.1 (eiz ▸ inv_ok _))
      clear eo eiz
      have hd : decide ((0 : Int) ≤ 254 - ((255 : Nat) : Int)) = false := by simp
      rw [HRES2.out] at HRES
      clear HRES2
      go_upto_region 14 with (go_at_call 22; refine (swap_any _ _ b7 b8 st.a st.b Rb7.out Rb8.out N7.out.1).mono ?_; rintro e Y5 ⟨⟨v1, rfl⟩, ha, hb, hu⟩; skip; have RB7 := Lib.hid (show Row Y5 b7 57 g.l from hg ▸ ha); have HU1 := Lib.hid hu; clear ha hb hu)
      clear hg
      have HB5 := Lib.hid (below_upd HB.out HU1.out (by intro z hz; have := N7.out; simp at hz; omega) (HB.out.size_le HKB.out))
      have HZ := Lib.hid (upd_blk HU1.out HZ.out (by have := N7.out; simp; omega))
      clear HU1 Rb7 Rb8 Rb6 HK HB
      have HZ5 := HZ
      refine RL.start (RL.Aft Y5) (by kernel_rfl) (RL.Aft.drew (RL.Aft.refl Y5)) ?_
      refine' RL.takeV (i := 0) (v := _) rfl (by kernel_rfl) (by kernel_rfl) (by kernel_rfl) (fun _ _ _ h => h) (by rfl) ?hk3 ?_
      case hk3 => (intro W hSW; go_simp; try with_reducible rfl)
      (try simp only [Act.put, List.setIfInBounds_toArray, List.set_cons_zero, List.set_cons_succ])
      refine RL.takeV (i := 1) (v := .agg (u64s g.x.l)) rfl (by kernel_rfl) (by kernel_rfl) (by kernel_rfl) (fun _ _ _ h => h) (by rfl) (fun W hSW => run_at 53 _ rfl b7 0 rfl (u64s g.x.l) (pt_x (aft_row hSW RB7.out)) Tryz.underlying53 rfl (by kernel_rfl)) ?_
      (try simp only [Act.put, List.setIfInBounds_toArray, List.set_cons_zero, List.set_cons_succ])
      refine' RL.takeV (i := 2) (v := _) rfl (by kernel_rfl) (by kernel_rfl) (by kernel_rfl) (fun _ _ _ h => h) (by rfl) ?hk4 ?_
      case hk4 => (intro W hSW; go_simp; try with_reducible rfl)
      (try simp only [Act.put, List.setIfInBounds_toArray, List.set_cons_zero, List.set_cons_succ])
      refine RL.takeV (i := 3) (v := .agg (u64s g.z.l)) rfl (by kernel_rfl) (by kernel_rfl) (by kernel_rfl) (fun _ _ _ h => h) (by rfl) (fun W hSW => run_at 53 _ rfl b7 5 rfl (u64s g.z.l) (pt_z (aft_row hSW RB7.out)) Tryz.underlying53 rfl (by kernel_rfl)) ?_
      (try simp only [Act.put, List.setIfInBounds_toArray, List.set_cons_zero, List.set_cons_succ])
      refine' RL.takeC (i := 4) (v := .agg (u64s (iz).l)) 25 #[.agg (u64s g.z.l)] rfl (by kernel_rfl) (by kernel_rfl) (by kernel_rfl) (fun _ _ _ h => h) (by rfl) ?hk5 ?hc5 ?_
      case hk5 => (intro W; go_simp; try with_reducible rfl)
      case hc5 => (intro W hSW; exact (Ciz.out W).mono (fun e w9 h9 => ⟨h9.1, h9.2, RL.Aft.lat hSW h9.2⟩))
      (try simp only [Act.put, List.setIfInBounds_toArray, List.set_cons_zero, List.set_cons_succ])
      refine' RL.takeC (i := 5) (v := .agg (u64s (o).l)) 24 #[.agg (u64s g.x.l), .agg (u64s iz.l)] rfl (by kernel_rfl) (by kernel_rfl) (by kernel_rfl) (fun _ _ _ h => h) (by rfl) ?hk6 ?hc6 ?_
      case hk6 => (intro W; go_simp; try with_reducible rfl)
      case hc6 => (intro W hSW; exact (Co.out W).mono (fun e w9 h9 => ⟨h9.1, h9.2, RL.Aft.lat hSW h9.2⟩))
      (try simp only [Act.put, List.setIfInBounds_toArray, List.set_cons_zero, List.set_cons_succ])
      refine RL.stepK (i := 6) rfl (by kernel_rfl) (by rfl) (fun wa hlwa hswa K hK => ?_)
      go_simp
      obtain ⟨b12, hb12⟩ : ∃ n, wa.heap.size = n := ⟨_, rfl⟩
      have hZ := Rg.Blk.newAt hb12.symm Z5 53
      have Hb12 := Lib.hid (show Y5.heap.size ≤ b12 from hb12 ▸ Below.size hswa)
      refine hK.out _ _ (RL.Aft.alloc hswa _) ?_
      try rw [hb12]
      clear hK
      (try simp only [Act.put, List.setIfInBounds_toArray, List.set_cons_zero, List.set_cons_succ])
      refine RL.stepK (i := 7) rfl (by kernel_rfl) (by rfl) (fun va hlva hsva K hK => ?_)
      refine store_blk_op 53 _ _ rfl b12 (u64s (o).l) Z5 53 rfl rfl (hZ.below hlva hZ.lt) (by kernel_rfl) rfl (u64s_one _) ?_
      intro Y hY hgY
      refine hK.out _ _ (Below.grown hsva hgY (Below.size hsva) (fun k hk => by cases hk; exact Hb12.out)) ?_
      clear hK
      (try simp only [Act.put, List.setIfInBounds_toArray, List.set_cons_zero, List.set_cons_succ])
      refine RL.done (by kernel_rfl) (fun Y6 hlY6 hsY6 => ?_)
      have HA := Lib.hid (show RL.Aft Y5 Y6 from hsY6)
      have Rb12 := Lib.hid (show Row Y6 b12 53 (o).l from hY.below hlY6 hY.lt)
      clear hsY6 hlY6 hY hgY hsva hlva hZ hswa hlwa hb12
      have HZ := Lib.hid (aft_blk HA.out HZ.out)
      have HB6 := Lib.hid (Below.trans HB5.out (Below.mono HA.out (HB5.out.size_le HKB.out)))
      have N12 := Lib.hid (show ¬ b12 = rb from by have h1 := Hb12.out; have h2 := HZ5.out.lt; omega)
      have H32 := Lib.hid (show (Cv.bytesV (bytesE o)).size = 32 from by rw [Cv.bytesV_size, bytesE_len])
      have H320 := Lib.hid (show (Cv.bytesV (toLe 32 (0 % 2 ^ 0))).size = 32 from by rw [Cv.bytesV_size, toLe_len])
      clear HA HB5 Hb12 HZ5
      go_upto_region 15 with fail
      refine RL.start (fun W => Sp.Upd Y6 W [rb]) (by kernel_rfl) (Sp.Upd.trans (Sp.Upd.refl _ _) (Sp.Upd.of_below (Below.drew (Below.refl _ _))) (by simp)) ?_
      refine RL.takeV (i := 0) (v := .agg (u64s (o).l)) rfl (by kernel_rfl) (by kernel_rfl) (by kernel_rfl) (fun _ _ _ h => h) (by rfl) (fun W hSW => run_at 53 _ rfl b12 0 rfl (u64s (o).l) (el_at (upd_row hSW Rb12.out (by simp; exact N12.out))) Tryz.underlying53 rfl (by kernel_rfl)) ?_
      (try simp only [Act.put, List.setIfInBounds_toArray, List.set_cons_zero, List.set_cons_succ])
      refine' RL.takeC (i := 1) (v := .agg (Cv.bytesV (bytesE o))) 26 #[.agg (u64s o.l)] rfl (by kernel_rfl) (by kernel_rfl) (by kernel_rfl) (fun _ _ _ h => h) (by rfl) ?hk7 ?hc7 ?_
      case hk7 => (intro W; go_simp; try with_reducible rfl)
      case hc7 => (intro W hSW; exact (Bytes_any W o).mono (fun e w9 h9 => ⟨h9.1, h9.2, Sp.Upd.trans hSW (Sp.Upd.of_below h9.2) (by simp)⟩))
      (try simp only [Act.put, List.setIfInBounds_toArray, List.set_cons_zero, List.set_cons_succ])
      refine RL.takeV (i := 2) (v := .agg (u64s (o).l)) rfl (by kernel_rfl) (by kernel_rfl) (by kernel_rfl) (fun _ _ _ h => h) (by rfl) (fun W hSW => run_at 53 _ rfl b12 0 rfl (u64s (o).l) (el_at (upd_row hSW Rb12.out (by simp; exact N12.out))) Tryz.underlying53 rfl (by kernel_rfl)) ?_
      (try simp only [Act.put, List.setIfInBounds_toArray, List.set_cons_zero, List.set_cons_succ])
      refine' RL.takeC (i := 3) (v := .bool (zero o)) 27 #[.agg (u64s o.l)] rfl (by kernel_rfl) (by kernel_rfl) (by kernel_rfl) (fun _ _ _ h => h) (by rfl) ?hk8 ?hc8 ?_
      case hk8 => (intro W; go_simp; try with_reducible rfl)
      case hc8 => (intro W hSW; exact (Zero_any W o).mono (fun e w9 h9 => ⟨h9.1, h9.2, Sp.Upd.trans hSW (Sp.Upd.of_below h9.2) (by simp)⟩))
      (try simp only [Act.put, List.setIfInBounds_toArray, List.set_cons_zero, List.set_cons_succ])
      refine' RL.takeV (i := 4) (v := _) rfl (by kernel_rfl) (by kernel_rfl) (by kernel_rfl) (fun _ _ _ h => h) (by rfl) ?hk9 ?_
      case hk9 => (intro W hSW; go_simp; try with_reducible rfl)
      (try simp only [Act.put, List.setIfInBounds_toArray, List.set_cons_zero, List.set_cons_succ])
      refine RL.stepK (i := 5) rfl (by kernel_rfl) (by rfl) (fun va hlva hsva K hK => ?_)
      refine store_blk_op 22 _ _ rfl rb (Cv.bytesV (bytesE o)) (Cv.bytesV (toLe 32 (0 % 2 ^ 0))) 22 rfl rfl ((HZ.out.below (Below.drew (Below.refl _ _)) HZ.out.lt).below hlva (by have := HZ.out.lt; simpa using this)) (by rw [H32.out]; kernel_rfl) (by rw [H32.out, H320.out]) (Cv.bytesV_one _) ?_
      intro Y hY hgY
      have hsY : Sp.Upd Y6 Y [rb] := Sp.Upd.trans hsva (Sp.Upd.of_grown1 hgY) (fun k hk => .inl hk)
      refine hK.out _ _ hsY ?_
      clear hK
      (try simp only [Act.put, List.setIfInBounds_toArray, List.set_cons_zero, List.set_cons_succ])
      refine RL.stepK (i := 6) rfl (by kernel_rfl) (by rfl) (fun vb hlvb hsvb K hK => ?_)
      have hYb := hY.below hlvb hY.lt
      go_simp
      refine hK.out _ _ hsvb ?_
      clear hK
      (try simp only [Act.put, List.setIfInBounds_toArray, List.set_cons_zero, List.set_cons_succ])
      refine RL.done (by kernel_rfl) (fun wd hlwd hswd => ?_)
      have HZZ := Lib.hid (show Rg.Blk wd rb 22 (Cv.bytesV (bytesE o)) from Rg.Blk.below hYb hlwd hYb.lt)
      have HBZ := Lib.hid (below_upd HB6.out hswd (by intro z hz; have := HN.out; simp at hz; omega) (HB6.out.size_le HKB.out))
      clear hYb hY hgY hsY hlwd hswd hlva hsva hlvb hsvb
      go_wp2_with fail
      refine bodyPost_ret (v := .tuple #[.agg (Cv.bytesV (bytesE o)), .bool (!zero o)])
        (results_cell_slot Tryz.results9 _ _ rb 22 _ (0, 0) _ _ rfl rfl HZZ.out Tryz.underlying22 rfl (by rw [H32.out]; kernel_rfl)) rfl ?_
      exact ⟨by rw [HRES.out], HKB.out ▸ HBZ.out⟩
end Go.Proofs.YtfaeigbfnjkojaaGreatDoor.Kx
