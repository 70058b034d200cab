/- RfG, RfH, RfI, RfJ, ShaB, RefA, RefBlock, RefBlock64, ShaC, RefS, RefSum64, RefT64, RfK, EdS, RfL, RfM, SgA, SgB: what the claims need of them. -/
import Derived.Laws.CopyOwn
import Derived.Deep.QuietTactic
import Derived.BigQuiet
import Derived.Great.BuildSlice
import Derived.Lib.Hide
import Derived.Deep.RegionWith
import Derived.Test.YtfpcelmekfdafaaGreatDoorRows
import Derived.Lib.Strings
import Derived.Lib.Slices
import Derived.Lib.Walk
import Derived.Lib.Builder
import Derived.Lib.AppendStr
import Derived.Lib.UnsafeStr
import Derived.Lib.MakeNoZero
import Derived.WalkKit
import Derived.Laws.Externs
import Derived.Laws.IdiomCopy
import Derived.Laws.BitsLemmas
import Derived.Test.YtfpcelmekfdafaaGreatDoorVaD
set_option linter.unusedVariables false
set_option linter.unusedSimpArgs false
set_option maxRecDepth 20000
set_option maxHeartbeats 16000000
namespace Go.Proofs.YtfpcelmekfdafaaGreatDoor.Rf
open Go.RowKit Go.Proofs.YtfpcelmekfdafaaGreatDoor.Ow Go.Proofs.YtfpcelmekfdafaaGreatDoor.Kx Go.Proofs.YtfpcelmekfdafaaGreatDoor.Dg Go.Proofs.YtfpcelmekfdafaaGreatDoor.Ed
/-- a block, led on -/
def BK (w : World) (b : Nat) (T : TypeId) (cs : Array Value) : Prop := Rg.Blk w b T cs
theorem BK.below {w w' : World} {b : Nat} {T : TypeId} {cs : Array Value} (h : BK w b T cs) (hb : Below w.heap.size w w') : BK w' b T cs := Rg.Blk.below h hb (Rg.Blk.lt h)
theorem BK.cell {w : World} {b : Nat} {T : TypeId} {cs : Array Value} (h : BK w b T cs) (j : Nat) {v : Value} (hv : cs[j]? = some v) : w.cell? ⟨b, j, none⟩ = some v := Rg.Blk.cell h j hv
theorem BK.frozen {w : World} {b : Nat} {T : TypeId} {cs : Array Value} (h : BK w b T cs) (j : Nat) : w.frozen? ⟨b, j, none⟩ = false := Rg.Blk.frozen h j
/-- a store into a block that holds no ints leaves digits as they are -/
theorem Ns.grown {w w' : World} {v : Value} {l : List Nat} {rb : Nat} {T : TypeId} {cs : Array Value} (h : Ns w v l) (hg : w.grownBy w' (some rb)) (hb : BK w rb T cs) (hcs : ∀ (j : Nat) (d : Int), cs[j]? ≠ some (.int .i64 d)) : Ns w' v l := by
 obtain ⟨A, c, rfl, hR, hc⟩ := h
 refine ⟨A, c, rfl, fun j y hy => ?_, hc⟩
 obtain ⟨b, o, hA, hl, hcl⟩ := hR j y hy
 have hy2 : ∃ d : Nat, y = .int .i64 (d : Int) := by
  unfold iv at hy
  rw [List.getElem?_map] at hy
  obtain ⟨d, _, hd⟩ := Option.map_eq_some_iff.1 hy
  exact ⟨d, hd.symm⟩
 obtain ⟨d, rfl⟩ := hy2
 have hne : b ≠ rb := fun e => by
  subst e
  rw [cell_of_row w b (o + j) _ _ _ hb] at hcl
  exact hcs _ _ hcl
 refine ⟨b, o, hA, Nat.lt_of_lt_of_le hl hg.size, ?_⟩
 have hh := hg.block b hl (fun e => hne (Option.some.inj e))
 rw [← hcl]
 unfold World.cell?
 simp only [hh]
theorem FR.grown {w w' : World} {v : Value} {x : F} {rb : Nat} {T : TypeId} {cs : Array Value} (h : FR w v x) (hg : w.grownBy w' (some rb)) (hb : BK w rb T cs) (hcs : ∀ (j : Nat) (d : Int), cs[j]? ≠ some (.int .i64 d)) : FR w' v x := Ns.grown h hg hb hcs
theorem nil3 (j : Nat) (d : Int) : (#[Value.slice none 0 0, .slice none 0 0, .slice none 0 0] : Array Value)[j]? ≠ some (.int .i64 d) := by
 match j with
 | 0 => simp
 | 1 => simp
 | 2 => simp
 | j + 3 => simp
theorem not_int3 {a b c : Value} (ha : ∀ d, a ≠ .int .i64 d) (hb : ∀ d, b ≠ .int .i64 d) (hc : ∀ d, c ≠ .int .i64 d) (j : Nat) (d : Int) : (#[a, b, c] : Array Value)[j]? ≠ some (.int .i64 d) := by
 match j with
 | 0 => simpa using ha d
 | 1 => simpa using hb d
 | 2 => simpa using hc d
 | j + 3 => simp
/-- v is a point's three numbers -/
def P3 (w : World) (v : Value) (X Y Z : F) : Prop := ∃ a b c, v = .agg #[a, b, c] ∧ FR w a X ∧ FR w b Y ∧ FR w c Z
theorem P3.below {w w' : World} {v : Value} {X Y Z : F} (h : P3 w v X Y Z) (hb : Below w.heap.size w w') : P3 w' v X Y Z := by
 obtain ⟨a, b, c, h1, h2, h3, h4⟩ := h
 exact ⟨a, b, c, h1, h2.below hb, h3.below hb, h4.below hb⟩
/-- v stands for the point p -/
def PQ (w : World) (v : Value) (p : Pt) : Prop := ∃ X Y Z, P3 w v X Y Z ∧ Rep p X Y Z
theorem PQ.below {w w' : World} {v : Value} {p : Pt} (h : PQ w v p) (hb : Below w.heap.size w w') : PQ w' v p := by
 obtain ⟨X, Y, Z, h1, h2⟩ := h
 exact ⟨X, Y, Z, h1.below hb, h2⟩
theorem mul8_any (w : World) (v1 v2 : Value) (x y : F) (h1 : FR w v1 x) (h2 : FR w v2 y) : Calls Tryz.prog 40 #[v1, v2] w fun e w' => (∃ u, e = .returned u ∧ FR w' u (x * y)) ∧ Below w.heap.size w w' := by
 have HX := ϕ h1
 have HY := ϕ h2
 have HB := ϕ (Below.refl w.heap.size w)
 clear h1 h2
 go_enter Tryz.func40, Tryz.ntmps40
 have tk1 := True.intro
 go_wp2_with (have _t := tk1; go_at_call 76; refine (mul_any w _ _ x y HX.out HY.out).mono ?_; rintro e w1x ⟨⟨p, rfl, hv⟩, hb⟩; have HX := ϕ (HX.out.below hb); have HY := ϕ (HY.out.below hb); have HP := ϕ hv; have HB := tm HB hb; clear hb hv _t tk1; have tk2 := True.intro)
 go_ret
 exact ⟨⟨_, rfl, HP.out⟩, HB.out⟩
theorem d_num : (0 - 121665) * Ed.inv 121666 = dE := by decide +kernel
theorem D_any (w : World) : Calls Tryz.prog 17 #[] w fun e w' => (∃ u, e = .returned u ∧ FR w' u (dE)) ∧ Below w.heap.size w w' := by
 have HB := ϕ (Below.refl w.heap.size w)
 go_enter Tryz.func17, Tryz.ntmps17
 have tk1 := True.intro
 go_wp2_with (first
  | (have _t := tk1; go_at_call 41; refine (Small_any w 121665 (by omega)).mono ?_; rintro e w1x ⟨⟨a, rfl, hv⟩, hb⟩; skip;  have HA := ϕ hv; have HB := tm HB hb; clear hb hv _t tk1; have tk2 := True.intro)
  | (have _t := tk2; go_at_call 37; refine (sub_any w1x _ _ 0 121665 (FR.nil _) HA.out).mono ?_; rintro e w2x ⟨⟨b, rfl, hv⟩, hb⟩; have HA := ϕ (HA.out.below hb); have HS := ϕ hv; have HB := tm HB hb; clear hb hv _t tk2; have tk3 := True.intro)
  | (have _t := tk3; go_at_call 41; refine (Small_any w2x 121666 (by omega)).mono ?_; rintro e w3x ⟨⟨c, rfl, hv⟩, hb⟩; have HA := ϕ (HA.out.below hb); have HS := ϕ (HS.out.below hb); have HC := ϕ hv; have HB := tm HB hb; clear hb hv _t tk3; have tk4 := True.intro)
  | (have _t := tk4; go_at_call 43; refine (invert_any w3x _ 121666 HC.out).mono ?_; rintro e w4x ⟨⟨d, rfl, hv⟩, hb⟩; have HA := ϕ (HA.out.below hb); have HS := ϕ (HS.out.below hb); have HC := ϕ (HC.out.below hb); have HD := ϕ hv; have HB := tm HB hb; clear hb hv _t tk4; have tk5 := True.intro)
  | (have _t := tk5; go_at_call 40; refine (mul8_any w4x _ _ (0 - 121665) (Ed.inv 121666) HS.out HD.out).mono ?_; rintro e w5x ⟨⟨r, rfl, hv⟩, hb⟩; have HA := ϕ (HA.out.below hb); have HS := ϕ (HS.out.below hb); have HC := ϕ (HC.out.below hb); have HD := ϕ (HD.out.below hb); have HR := ϕ hv; have HB := tm HB hb; clear hb hv _t tk5; have tk6 := True.intro))
 go_ret
 exact ⟨⟨_, rfl, by have h := HR.out; rw [d_num] at h; exact h⟩, HB.out⟩
theorem FR.form {w : World} {v : Value} {x : F} (h : FR w v x) : ∃ A n c, v = .slice A n c := by
 obtain ⟨A, c, rfl, _, _⟩ := h; exact ⟨A, _, c, rfl⟩
theorem FR.one {w : World} {v : Value} {x : F} (h : FR w v x) : v.oneCell' = true := by
 obtain ⟨A, c, rfl, _, _⟩ := h; rfl
theorem add3_any (w : World) (vd x1 y1 z1 x2 y2 z2 : Value) (d X1 Y1 Z1 X2 Y2 Z2 : F) (hd : FR w vd d) (a1 : FR w x1 X1) (a2 : FR w y1 Y1) (a3 : FR w z1 Z1) (b1 : FR w x2 X2) (b2 : FR w y2 Y2) (b3 : FR w z2 Z2) :
 Calls Tryz.prog 38 #[vd, .agg #[x1, y1, z1], .agg #[x2, y2, z2]] w fun e w' => (∃ u, e = .returned u ∧ P3 w' u (aX d X1 Y1 Z1 X2 Y2 Z2) (aY d X1 Y1 Z1 X2 Y2 Z2) (aZ d X1 Y1 Z1 X2 Y2 Z2)) ∧ Below w.heap.size w w' := by
 have HD := ϕ hd
 have HX1 := ϕ a1
 have HY1 := ϕ a2
 have HZ1 := ϕ a3
 have HX2 := ϕ b1
 have HY2 := ϕ b2
 have HZ2 := ϕ b3
 clear hd a1 a2 a3 b1 b2 b3
 go_enter Tryz.func38, Tryz.ntmps38
 have tok1 := True.intro
 go_upto_region 1 with (first
  | (have _t := tok1; (with_reducible refine Kx.gate_ ?_); refine Rg.box_fresh rfl 40 _ rfl #[x1, y1, z1] rfl ?_; intro X hX hbX hnX; have HP := ϕ hX; have HBX := ϕ hbX; have HNX := ϕ hnX; clear hX hbX hnX _t tok1; have tok2 := True.intro)
  | (have _t := tok2; (with_reducible refine Kx.gate_ ?_); refine Rg.box_fresh rfl 40 _ rfl #[x2, y2, z2] rfl ?_; intro X2 hX hbX hnX; have HQ := ϕ hX; have HBX2 := ϕ hbX; have HNX2 := ϕ hnX; clear hX hbX hnX _t tok2))
 obtain ⟨pb, hpb⟩ : ∃ n, w.heap.size = n := ⟨_, rfl⟩
 obtain ⟨qb, hqb⟩ : ∃ n, X.heap.size = n := ⟨_, rfl⟩
 obtain ⟨rb, hrb⟩ : ∃ n, X2.heap.size = n := ⟨_, rfl⟩
 have HBA := ϕ (show Below X2.heap.size X2 (X2.alloc (.cells #[.slice none 0 0, .slice none 0 0, .slice none 0 0] 40)) from (Below.refl _ _).alloc (Nat.le_refl _) _)
 have HRB := ϕ (show BK (X2.alloc (.cells #[.slice none 0 0, .slice none 0 0, .slice none 0 0] 40)) rb 40 #[.slice none 0 0, .slice none 0 0, .slice none 0 0] from Rg.Blk.newAt hrb.symm _ _)
 have HP := ϕ (show BK X2 pb 40 #[x1, y1, z1] from BK.below (hpb ▸ HP.out) HBX2.out)
 have HQ := ϕ (show BK X2 qb 40 #[x2, y2, z2] from hqb ▸ HQ.out)
 have HP := ϕ (HP.out.below HBA.out)
 have HQ := ϕ (HQ.out.below HBA.out)
 have HB2 := ϕ (show Below w.heap.size w X2 from HBX.out.trans (HBX2.out.mono HBX.out.size))
 have HB := ϕ (HB2.out.trans (HBA.out.mono HB2.out.size))
 have HRN := ϕ (show w.heap.size ≤ rb from by rw [← hrb]; exact HB2.out.size)
 try rw [hpb]
 try rw [hqb]
 try rw [hrb]
 clear hpb hqb hrb HBX HNX HBX2 HNX2 HBA HB2
 generalize (X2.alloc (.cells #[.slice none 0 0, .slice none 0 0, .slice none 0 0] 40)) = Y at *
 have HX1 := ϕ (HX1.out.below HB.out)
 have HY1 := ϕ (HY1.out.below HB.out)
 have HZ1 := ϕ (HZ1.out.below HB.out)
 have HX2 := ϕ (HX2.out.below HB.out)
 have HY2 := ϕ (HY2.out.below HB.out)
 have HZ2 := ϕ (HZ2.out.below HB.out)
 have HD := ϕ (HD.out.below HB.out)
 have p0 := HP.out.cell 0 (v := x1) rfl
 have p1 := HP.out.cell 1 (v := y1) rfl
 have p2 := HP.out.cell 2 (v := z1) rfl
 have q0 := HQ.out.cell 0 (v := x2) rfl
 have q1 := HQ.out.cell 1 (v := y2) rfl
 have q2 := HQ.out.cell 2 (v := z2) rfl
 have tk1 := True.intro
 go_upto_region 8 with (first
  | (have _t := tk1; go_at_call 40; refine (mul8_any Y _ _ _ _ HZ1.out HZ2.out).mono ?_; rintro e w1x ⟨⟨a, rfl, hv⟩, hb⟩; have HP := ϕ (HP.out.below hb); have HQ := ϕ (HQ.out.below hb); have HRB := ϕ (HRB.out.below hb); have HX1 := ϕ (HX1.out.below hb); have HY1 := ϕ (HY1.out.below hb); have HX2 := ϕ (HX2.out.below hb); have HY2 := ϕ (HY2.out.below hb); have HD := ϕ (HD.out.below hb); have HA := ϕ hv; replace p0 := HP.out.cell 0 (v := x1) rfl; replace p1 := HP.out.cell 1 (v := y1) rfl; replace p2 := HP.out.cell 2 (v := z1) rfl; replace q0 := HQ.out.cell 0 (v := x2) rfl; replace q1 := HQ.out.cell 1 (v := y2) rfl; replace q2 := HQ.out.cell 2 (v := z2) rfl; have HB := tm HB hb; clear hb hv _t tk1; have tk2 := True.intro)
  | (have _t := tk2; go_at_call 40; refine (mul8_any w1x _ _ _ _ HA.out HA.out).mono ?_; rintro e w2x ⟨⟨b, rfl, hv⟩, hb⟩; have HP := ϕ (HP.out.below hb); have HQ := ϕ (HQ.out.below hb); have HRB := ϕ (HRB.out.below hb); have HX1 := ϕ (HX1.out.below hb); have HY1 := ϕ (HY1.out.below hb); have HX2 := ϕ (HX2.out.below hb); have HY2 := ϕ (HY2.out.below hb); have HD := ϕ (HD.out.below hb); have HA := ϕ (HA.out.below hb); have HBB := ϕ hv; replace p0 := HP.out.cell 0 (v := x1) rfl; replace p1 := HP.out.cell 1 (v := y1) rfl; replace p2 := HP.out.cell 2 (v := z1) rfl; replace q0 := HQ.out.cell 0 (v := x2) rfl; replace q1 := HQ.out.cell 1 (v := y2) rfl; replace q2 := HQ.out.cell 2 (v := z2) rfl; have HB := tm HB hb; clear hb hv _t tk2; have tk3 := True.intro)
  | (have _t := tk3; go_at_call 40; refine (mul8_any w2x _ _ _ _ HX1.out HX2.out).mono ?_; rintro e w3x ⟨⟨xx, rfl, hv⟩, hb⟩; have HP := ϕ (HP.out.below hb); have HQ := ϕ (HQ.out.below hb); have HRB := ϕ (HRB.out.below hb); have HX1 := ϕ (HX1.out.below hb); have HY1 := ϕ (HY1.out.below hb); have HX2 := ϕ (HX2.out.below hb); have HY2 := ϕ (HY2.out.below hb); have HD := ϕ (HD.out.below hb); have HA := ϕ (HA.out.below hb); have HBB := ϕ (HBB.out.below hb); have HXX := ϕ hv; replace p0 := HP.out.cell 0 (v := x1) rfl; replace p1 := HP.out.cell 1 (v := y1) rfl; replace p2 := HP.out.cell 2 (v := z1) rfl; replace q0 := HQ.out.cell 0 (v := x2) rfl; replace q1 := HQ.out.cell 1 (v := y2) rfl; replace q2 := HQ.out.cell 2 (v := z2) rfl; have HB := tm HB hb; clear hb hv _t tk3; have tk4 := True.intro)
  | (have _t := tk4; go_at_call 40; refine (mul8_any w3x _ _ _ _ HY1.out HY2.out).mono ?_; rintro e w4x ⟨⟨yy, rfl, hv⟩, hb⟩; have HP := ϕ (HP.out.below hb); have HQ := ϕ (HQ.out.below hb); have HRB := ϕ (HRB.out.below hb); have HX1 := ϕ (HX1.out.below hb); have HY1 := ϕ (HY1.out.below hb); have HX2 := ϕ (HX2.out.below hb); have HY2 := ϕ (HY2.out.below hb); have HD := ϕ (HD.out.below hb); have HA := ϕ (HA.out.below hb); have HBB := ϕ (HBB.out.below hb); have HXX := ϕ (HXX.out.below hb); have HYY := ϕ hv; replace p0 := HP.out.cell 0 (v := x1) rfl; replace p1 := HP.out.cell 1 (v := y1) rfl; replace p2 := HP.out.cell 2 (v := z1) rfl; replace q0 := HQ.out.cell 0 (v := x2) rfl; replace q1 := HQ.out.cell 1 (v := y2) rfl; replace q2 := HQ.out.cell 2 (v := z2) rfl; have HB := tm HB hb; clear hb hv _t tk4; have tk5 := True.intro)
  | (have _t := tk5; go_at_call 40; refine (mul8_any w4x _ _ _ _ HXX.out HYY.out).mono ?_; rintro e w5x ⟨⟨xy, rfl, hv⟩, hb⟩; have HP := ϕ (HP.out.below hb); have HQ := ϕ (HQ.out.below hb); have HRB := ϕ (HRB.out.below hb); have HX1 := ϕ (HX1.out.below hb); have HY1 := ϕ (HY1.out.below hb); have HX2 := ϕ (HX2.out.below hb); have HY2 := ϕ (HY2.out.below hb); have HD := ϕ (HD.out.below hb); have HA := ϕ (HA.out.below hb); have HBB := ϕ (HBB.out.below hb); have HXX := ϕ (HXX.out.below hb); have HYY := ϕ (HYY.out.below hb); have HXY := ϕ hv; replace p0 := HP.out.cell 0 (v := x1) rfl; replace p1 := HP.out.cell 1 (v := y1) rfl; replace p2 := HP.out.cell 2 (v := z1) rfl; replace q0 := HQ.out.cell 0 (v := x2) rfl; replace q1 := HQ.out.cell 1 (v := y2) rfl; replace q2 := HQ.out.cell 2 (v := z2) rfl; have HB := tm HB hb; clear hb hv _t tk5; have tk6 := True.intro)
  | (have _t := tk6; go_at_call 40; refine (mul8_any w5x _ _ _ _ HD.out HXY.out).mono ?_; rintro e w6x ⟨⟨e, rfl, hv⟩, hb⟩; have HP := ϕ (HP.out.below hb); have HQ := ϕ (HQ.out.below hb); have HRB := ϕ (HRB.out.below hb); have HX1 := ϕ (HX1.out.below hb); have HY1 := ϕ (HY1.out.below hb); have HX2 := ϕ (HX2.out.below hb); have HY2 := ϕ (HY2.out.below hb); have HA := ϕ (HA.out.below hb); have HBB := ϕ (HBB.out.below hb); have HXX := ϕ (HXX.out.below hb); have HYY := ϕ (HYY.out.below hb); have HE := ϕ hv; replace p0 := HP.out.cell 0 (v := x1) rfl; replace p1 := HP.out.cell 1 (v := y1) rfl; replace p2 := HP.out.cell 2 (v := z1) rfl; replace q0 := HQ.out.cell 0 (v := x2) rfl; replace q1 := HQ.out.cell 1 (v := y2) rfl; replace q2 := HQ.out.cell 2 (v := z2) rfl; have HB := tm HB hb; clear hb hv _t tk6; have tk7 := True.intro)
  | (have _t := tk7; go_at_call 37; refine (sub_any w6x _ _ _ _ HBB.out HE.out).mono ?_; rintro e w7x ⟨⟨f, rfl, hv⟩, hb⟩; have HP := ϕ (HP.out.below hb); have HQ := ϕ (HQ.out.below hb); have HRB := ϕ (HRB.out.below hb); have HX1 := ϕ (HX1.out.below hb); have HY1 := ϕ (HY1.out.below hb); have HX2 := ϕ (HX2.out.below hb); have HY2 := ϕ (HY2.out.below hb); have HA := ϕ (HA.out.below hb); have HBB := ϕ (HBB.out.below hb); have HXX := ϕ (HXX.out.below hb); have HYY := ϕ (HYY.out.below hb); have HE := ϕ (HE.out.below hb); have HF := ϕ hv; replace p0 := HP.out.cell 0 (v := x1) rfl; replace p1 := HP.out.cell 1 (v := y1) rfl; replace p2 := HP.out.cell 2 (v := z1) rfl; replace q0 := HQ.out.cell 0 (v := x2) rfl; replace q1 := HQ.out.cell 1 (v := y2) rfl; replace q2 := HQ.out.cell 2 (v := z2) rfl; have HB := tm HB hb; clear hb hv _t tk7; have tk8 := True.intro)
  | (have _t := tk8; go_at_call 44; refine (add_any w7x _ _ _ _ HBB.out HE.out).mono ?_; rintro e w8x ⟨⟨g, rfl, hv⟩, hb⟩; have HP := ϕ (HP.out.below hb); have HQ := ϕ (HQ.out.below hb); have HRB := ϕ (HRB.out.below hb); have HX1 := ϕ (HX1.out.below hb); have HY1 := ϕ (HY1.out.below hb); have HX2 := ϕ (HX2.out.below hb); have HY2 := ϕ (HY2.out.below hb); have HA := ϕ (HA.out.below hb); have HXX := ϕ (HXX.out.below hb); have HYY := ϕ (HYY.out.below hb); have HF := ϕ (HF.out.below hb); have HG := ϕ hv; replace p0 := HP.out.cell 0 (v := x1) rfl; replace p1 := HP.out.cell 1 (v := y1) rfl; replace p2 := HP.out.cell 2 (v := z1) rfl; replace q0 := HQ.out.cell 0 (v := x2) rfl; replace q1 := HQ.out.cell 1 (v := y2) rfl; replace q2 := HQ.out.cell 2 (v := z2) rfl; have HB := tm HB hb; clear hb hv _t tk8; have tk9 := True.intro))
 refine RL.start (RL.Aft w8x) (by kernel_rfl) (RL.Aft.drew (RL.Aft.refl w8x)) ?_
 refine' RL.tv 0 ?hk21 ?_
 case hk21 => (intro W hSW; go_simp; try with_reducible rfl)
 try go_frame
 refine' RL.tv 1 ?hk22 ?_
 case hk22 => (intro W hSW; have x1 := (HP.out.below hSW).cell 0 (v := x1) rfl; go_simp; try with_reducible rfl)
 try go_frame
 refine' RL.tv 2 ?hk23 ?_
 case hk23 => (intro W hSW; go_simp; try with_reducible rfl)
 try go_frame
 refine' RL.tv 3 ?hk24 ?_
 case hk24 => (intro W hSW; have x1 := (HP.out.below hSW).cell 1 (v := y1) rfl; go_simp; try with_reducible rfl)
 try go_frame
 refine' RL.tv 5 ?hk25 ?_
 case hk25 => (intro W hSW; go_simp; try with_reducible rfl)
 try go_frame
 refine' RL.tv 6 ?hk26 ?_
 case hk26 => (intro W hSW; have x1 := (HQ.out.below hSW).cell 0 (v := x2) rfl; go_simp; try with_reducible rfl)
 try go_frame
 refine' RL.tv 7 ?hk27 ?_
 case hk27 => (intro W hSW; go_simp; try with_reducible rfl)
 try go_frame
 refine' RL.tv 8 ?hk28 ?_
 case hk28 => (intro W hSW; have x1 := (HQ.out.below hSW).cell 1 (v := y2) rfl; go_simp; try with_reducible rfl)
 try go_frame
 refine' RL.tv 11 ?hk29 ?_
 case hk29 => (intro W hSW; go_simp; try with_reducible rfl)
 try go_frame
 refine' RL.tv 13 ?hk30 ?_
 case hk30 => (intro W hSW; go_simp; try with_reducible rfl)
 try go_frame
 refine' RL.stepCall (i := 4) 44 #[x1, y1] rfl (by kernel_rfl) (by rfl) ?hv31 ?hc31
 case hv31 => (intro W; go_simp; try with_reducible rfl)
 intro wa hlwa hswa
 refine (add_any wa _ _ _ _ (HX1.out.below hswa) (HY1.out.below hswa)).mono ?_
 rintro e wa2 ⟨⟨u4, rfl, h4⟩, hb4⟩
 refine ⟨_, rfl, RL.Aft.lat hswa hb4, ?_⟩
 try go_frame
 refine' RL.stepCall (i := 9) 44 #[x2, y2] rfl (by kernel_rfl) (by rfl) ?hv32 ?hc32
 case hv32 => (intro W; go_simp; try with_reducible rfl)
 intro wb hlwb hswb
 refine (add_any wb _ _ _ _ (HX2.out.below hswb) (HY2.out.below hswb)).mono ?_
 rintro e wb2 ⟨⟨u9, rfl, h9⟩, hb9⟩
 have h4 := (h4.below hlwb).below hb9
 refine ⟨_, rfl, RL.Aft.lat hswb hb9, ?_⟩
 try go_frame
 refine' RL.stepCall (i := 10) 40 #[u4, u9] rfl (by kernel_rfl) (by rfl) ?hv33 ?hc33
 case hv33 => (intro W; go_simp; try with_reducible rfl)
 intro wc hlwc hswc
 refine (mul8_any wc _ _ _ _ (h4.below hlwc) (h9.below hlwc)).mono ?_
 rintro e wc2 ⟨⟨u10, rfl, h10⟩, hb10⟩
 refine ⟨_, rfl, RL.Aft.lat hswc hb10, ?_⟩
 try go_frame
 refine' RL.stepCall (i := 12) 37 #[u10, xx] rfl (by kernel_rfl) (by rfl) ?hv34 ?hc34
 case hv34 => (intro W; go_simp; try with_reducible rfl)
 intro wd hlwd hswd
 refine (sub_any wd _ _ _ _ (h10.below hlwd) (HXX.out.below hswd)).mono ?_
 rintro e wd2 ⟨⟨u12, rfl, h12⟩, hb12⟩
 refine ⟨_, rfl, RL.Aft.lat hswd hb12, ?_⟩
 try go_frame
 refine' RL.stepCall (i := 14) 37 #[u12, yy] rfl (by kernel_rfl) (by rfl) ?hv35 ?hc35
 case hv35 => (intro W; go_simp; try with_reducible rfl)
 intro we hlwe hswe
 refine (sub_any we _ _ _ _ (h12.below hlwe) (HYY.out.below hswe)).mono ?_
 rintro e we2 ⟨⟨u14, rfl, h14⟩, hb14⟩
 refine ⟨_, rfl, RL.Aft.lat hswe hb14, ?_⟩
 try go_frame
 refine' RL.tv 15 ?hk36 ?_
 case hk36 => (intro W hSW; go_simp; try with_reducible rfl)
 try go_frame
 refine RL.done (by kernel_rfl) (fun Y8 hlY8 hsY8 => ?_)
 have HCR := ϕ (h14.below hlY8)
 have HLX := ϕ hsY8
 have HRB := ϕ (HRB.out.below HLX.out)
 have HA := ϕ (HA.out.below HLX.out)
 have HXX := ϕ (HXX.out.below HLX.out)
 have HYY := ϕ (HYY.out.below HLX.out)
 have HF := ϕ (HF.out.below HLX.out)
 have HG := ϕ (HG.out.below HLX.out)
 have HB := ϕ (HB.out.trans (HLX.out.mono HB.out.size))
 clear hlwa hswa hlwb hswb hlwc hswc hlwd hswd hlwe hswe h4 h9 h10 h12 h14 hb4 hb9 hb10 hb12 hb14 hlY8 hsY8 HLX p0 p1 p2 q0 q1 q2
 have tl1 := True.intro
 go_wp2_with (first
  | (have _t := tl1; go_at_call 40; refine (mul8_any Y8 _ _ _ _ HA.out HF.out).mono ?_; rintro e w1x ⟨⟨af, rfl, hv⟩, hb⟩; have HRB := ϕ (HRB.out.below hb); have HA := ϕ (HA.out.below hb); have HXX := ϕ (HXX.out.below hb); have HYY := ϕ (HYY.out.below hb); have HF := ϕ (HF.out.below hb); have HG := ϕ (HG.out.below hb); have HCR := ϕ (HCR.out.below hb); have HAF := ϕ hv; have HB := tm HB hb; clear hb hv _t tl1; have tl2 := True.intro)
  | (have _t := tl2; go_at_call 40; refine (mul8_any w1x _ _ _ _ HAF.out HCR.out).mono ?_; rintro e w2x ⟨⟨ox, rfl, hv⟩, hb⟩; have HRB := ϕ (HRB.out.below hb); have HA := ϕ (HA.out.below hb); have HXX := ϕ (HXX.out.below hb); have HYY := ϕ (HYY.out.below hb); have HF := ϕ (HF.out.below hb); have HG := ϕ (HG.out.below hb); have HOX := ϕ hv; have HB := tm HB hb; clear hb hv _t tl2; have tl3 := True.intro)
  | (have _t := tl3; go_at_call 40; refine (mul8_any w2x _ _ _ _ HA.out HG.out).mono ?_; rintro e w3x ⟨⟨ag, rfl, hv⟩, hb⟩; have HRB := ϕ (HRB.out.below hb); have HXX := ϕ (HXX.out.below hb); have HYY := ϕ (HYY.out.below hb); have HF := ϕ (HF.out.below hb); have HG := ϕ (HG.out.below hb); have HOX := ϕ (HOX.out.below hb); have HAG := ϕ hv; have HB := tm HB hb; clear hb hv _t tl3; have tl4 := True.intro)
  | (have _t := tl4; go_at_call 44; refine (add_any w3x _ _ _ _ HXX.out HYY.out).mono ?_; rintro e w4x ⟨⟨xpy, rfl, hv⟩, hb⟩; have HRB := ϕ (HRB.out.below hb); have HF := ϕ (HF.out.below hb); have HG := ϕ (HG.out.below hb); have HOX := ϕ (HOX.out.below hb); have HAG := ϕ (HAG.out.below hb); have HXPY := ϕ hv; have HB := tm HB hb; clear hb hv _t tl4; have tl5 := True.intro)
  | (have _t := tl5; go_at_call 40; refine (mul8_any w4x _ _ _ _ HAG.out HXPY.out).mono ?_; rintro e w5x ⟨⟨oy, rfl, hv⟩, hb⟩; have HRB := ϕ (HRB.out.below hb); have HF := ϕ (HF.out.below hb); have HG := ϕ (HG.out.below hb); have HOX := ϕ (HOX.out.below hb); have HOY := ϕ hv; have HB := tm HB hb; clear hb hv _t tl5; have tl6 := True.intro)
  | (have _t := tl6; go_at_call 40; refine (mul8_any w5x _ _ _ _ HF.out HG.out).mono ?_; rintro e w6x ⟨⟨oz, rfl, hv⟩, hb⟩; have HRB := ϕ (HRB.out.below hb); have HOX := ϕ (HOX.out.below hb); have HOY := ϕ (HOY.out.below hb); have HOZ := ϕ hv; have HB := tm HB hb; clear hb hv _t tl6; have tl7 := True.intro; obtain ⟨oA, on, oc, hox⟩ := HOX.out.form; subst hox; obtain ⟨oB, om, od, hoy⟩ := HOY.out.form; subst hoy; obtain ⟨oC, ok, oe, hoz⟩ := HOZ.out.form; subst hoz)
  | ((with_reducible refine Kx.gate_ ?_); refine Cv.store_blk rfl 40 _ _ rfl rb #[.slice oA on oc, .slice oB om od, .slice oC ok oe] #[.slice none 0 0, .slice none 0 0, .slice none 0 0] 40 rfl rfl HRB.out (by kernel_rfl) rfl (by simp [Value.oneCell']) ?_; intro V9 hV hgV; have HV := ϕ hV; have HGV := ϕ hgV; clear hV hgV))
 refine bodyPost_ret (v := .agg #[.slice oA on oc, .slice oB om od, .slice oC ok oe])
  (results_cell_row Tryz.results38 _ _ rb 40 _ (0, 0) _ rfl HV.out Tryz.underlying40 rfl (by kernel_rfl)) rfl ?_
 have HB9 := ϕ (show Below w.heap.size w V9 from HB.out.grown HGV.out HB.out.size (fun j e => by cases e; exact HRN.out))
 have k := fun {v : Value} {x : F} (h : FR w6x v x) => FR.grown h HGV.out HRB.out nil3
 exact ⟨⟨_, rfl, _, _, _, rfl, k HOX.out, k HOY.out, k HOZ.out⟩, HB9.out⟩
theorem PQ.grown {w w' : World} {v : Value} {p : Pt} {rb : Nat} {T : TypeId} {cs : Array Value} (h : PQ w v p) (hg : w.grownBy w' (some rb)) (hb : BK w rb T cs) (hcs : ∀ (j : Nat) (d : Int), cs[j]? ≠ some (.int .i64 d)) : PQ w' v p := by
 obtain ⟨X, Y, Z, ⟨a, b, c, rfl, h1, h2, h3⟩, hr⟩ := h
 exact ⟨X, Y, Z, ⟨a, b, c, rfl, h1.grown hg hb hcs, h2.grown hg hb hcs, h3.grown hg hb hcs⟩, hr⟩
/-- a point's value: three slices -/
theorem PQ.form {w : World} {v : Value} {p : Pt} (h : PQ w v p) : ∃ A1 n1 c1 A2 n2 c2 A3 n3 c3, v = .agg #[.slice A1 n1 c1, .slice A2 n2 c2, .slice A3 n3 c3] := by
 obtain ⟨X, Y, Z, ⟨a, b, c, rfl, h1, h2, h3⟩, hr⟩ := h
 obtain ⟨A1, n1, c1, rfl⟩ := h1.form
 obtain ⟨A2, n2, c2, rfl⟩ := h2.form
 obtain ⟨A3, n3, c3, rfl⟩ := h3.form
 exact ⟨_, _, _, _, _, _, _, _, _, rfl⟩
theorem add_pq (w : World) (vd v1 v2 : Value) (p q : Pt) (hd : FR w vd dE) (h1 : PQ w v1 p) (h2 : PQ w v2 q) :
 Calls Tryz.prog 38 #[vd, v1, v2] w fun e w' => (∃ u, e = .returned u ∧ PQ w' u (p.add q)) ∧ Below w.heap.size w w' := by
 obtain ⟨X1, Y1, Z1, ⟨a1, b1, c1, rfl, x1, y1, z1⟩, r1⟩ := h1
 obtain ⟨X2, Y2, Z2, ⟨a2, b2, c2, rfl, x2, y2, z2⟩, r2⟩ := h2
 refine (add3_any w vd a1 b1 c1 a2 b2 c2 dE X1 Y1 Z1 X2 Y2 Z2 hd x1 y1 z1 x2 y2 z2).mono ?_
 rintro e w' ⟨⟨u, rfl, h⟩, hb⟩
 exact ⟨⟨u, rfl, _, _, _, h, r1.add r2⟩, hb⟩
theorem mul_bit1 (q : Pt) (n j : Nat) (h : n / 2 ^ j % 2 = 1) : ((Pt.mul (n / 2 ^ (j + 1)) q).add (Pt.mul (n / 2 ^ (j + 1)) q)).add q = Pt.mul (n / 2 ^ j) q := by
 have e : n / 2 ^ (j + 1) = n / 2 ^ j / 2 := by rw [Nat.pow_succ, Nat.div_div_eq_div_mul]
 rw [e, ← Pt.mul_odd]
 congr 1
 omega
theorem mul_bit0 (q : Pt) (n j : Nat) (h : n / 2 ^ j % 2 = 0) : (Pt.mul (n / 2 ^ (j + 1)) q).add (Pt.mul (n / 2 ^ (j + 1)) q) = Pt.mul (n / 2 ^ j) q := by
 have e : n / 2 ^ (j + 1) = n / 2 ^ j / 2 := by rw [Nat.pow_succ, Nat.div_div_eq_div_mul]
 rw [e, ← Pt.mul_two]
 congr 1
 omega
theorem times_any (w : World) (vd vn vp : Value) (n : Nat) (q : Pt) (hd : FR w vd dE) (hn : Ns w vn (dig n)) (hl : (dig n).length ≤ 1000) (hp : PQ w vp q) :
 Calls Tryz.prog 24 #[vd, vn, vp] w fun e w' => (∃ u, e = .returned u ∧ PQ w' u (Pt.mul n q)) ∧ Below w.heap.size w w' := by
 have HQP := ϕ hp
 obtain ⟨pA, pn, pc, pB, pm, pd, pC, pk, pe, rfl⟩ := hp.form
 have HD := ϕ hd
 have HNV := ϕ hn
 obtain ⟨A2, c2, rfl, hR2, hc2⟩ := hn
 obtain ⟨n2, hn2⟩ : ∃ k, (dig n).length = k := ⟨_, rfl⟩
 have HL2 := ϕ hn2
 have HDT := ϕ (div_top n n2 hn2)
 rw [hn2] at hc2 hl HNV ⊢
 clear hR2 hn2 hp hd
 go_enter Tryz.func24, Tryz.ntmps24
 go_upto_region 1 with ((with_reducible refine Kx.gate_ ?_); refine Rg.box_fresh rfl 40 _ rfl #[.slice pA pn pc, .slice pB pm pd, .slice pC pk pe] rfl ?_; intro X hX hbX hnX; have HP := ϕ hX; have HBX := ϕ hbX; have HNX := ϕ hnX; clear hX hbX hnX)
 obtain ⟨pb, hpb⟩ : ∃ n, w.heap.size = n := ⟨_, rfl⟩
 obtain ⟨rb, hrb⟩ : ∃ n, X.heap.size = n := ⟨_, rfl⟩
 have HBA := ϕ (show Below X.heap.size X (X.alloc (.cells #[.slice none 0 0, .slice none 0 0, .slice none 0 0] 40)) from (Below.refl _ _).alloc (Nat.le_refl _) _)
 have HRB := ϕ (show BK (X.alloc (.cells #[.slice none 0 0, .slice none 0 0, .slice none 0 0] 40)) rb 40 #[.slice none 0 0, .slice none 0 0, .slice none 0 0] from Rg.Blk.newAt hrb.symm _ _)
 have HPB := ϕ (show BK (X.alloc (.cells #[.slice none 0 0, .slice none 0 0, .slice none 0 0] 40)) pb 40 #[.slice pA pn pc, .slice pB pm pd, .slice pC pk pe] from BK.below (show BK X pb 40 #[.slice pA pn pc, .slice pB pm pd, .slice pC pk pe] from hpb ▸ HP.out) HBA.out)
 have HB := ϕ (show Below w.heap.size w (X.alloc (.cells #[.slice none 0 0, .slice none 0 0, .slice none 0 0] 40)) from HBX.out.trans (HBA.out.mono HBX.out.size))
 have HN1 := ϕ (show w.heap.size ≤ pb ∧ pb < rb from by have h := HNX.out; omega)
 try rw [hpb]
 try rw [hrb]
 clear hpb hrb HP HBX HNX HBA
 generalize (X.alloc (.cells #[.slice none 0 0, .slice none 0 0, .slice none 0 0] 40)) = Y at *
 have HD := ϕ (HD.out.below HB.out)
 have HNV := ϕ (HNV.out.below HB.out)
 have HQP := ϕ (HQP.out.below HB.out)
 have HRW := ϕ (show w.heap.size ≤ rb from by have h := HN1.out; omega)
 have HRL := ϕ (show rb < Y.heap.size from Rg.Blk.lt HRB.out)
 have HS1 := ϕ (Small_any Y 1 (by omega))
 have HS2 := ϕ (fun W => Small_any W 1 (by omega))
 have tok1 := True.intro
 go_upto_region 2 with (first
  | (have _t := tok1; go_at_call 41; refine HS1.out.mono ?_; rintro e w1 ⟨⟨o1, rfl, hv⟩, hb⟩; have H1 := ϕ (show FR _ o1 1 from hv); have HB1 := ϕ hb; clear hv hb _t tok1; have tok2 := True.intro)
  | (have _t := tok2; go_at_call 41; refine (HS2.out w1).mono ?_; rintro e w2 ⟨⟨o2, rfl, hv⟩, hb⟩; have H2 := ϕ (show FR _ o2 1 from hv); have HB2 := ϕ (HB1.out.trans (hb.mono HB1.out.size)); have H1 := ϕ (H1.out.below hb); clear hv hb _t tok2; obtain ⟨oB, om, od, ho1⟩ := H1.out.form; subst ho1; obtain ⟨oC, ok, oe, ho2⟩ := H2.out.form; subst ho2))
 obtain ⟨ob, hob⟩ : ∃ n, w2.heap.size = n := ⟨_, rfl⟩
 have HA2 := ϕ (show Below w2.heap.size w2 (w2.alloc (.cells #[.slice none 0 0, .slice oB om od, .slice oC ok oe] 40)) from (Below.refl _ _).alloc (Nat.le_refl _) _)
 have HOB := ϕ (show BK (w2.alloc (.cells #[.slice none 0 0, .slice oB om od, .slice oC ok oe] 40)) ob 40 #[.slice none 0 0, .slice oB om od, .slice oC ok oe] from Rg.Blk.newAt hob.symm _ _)
 have HBY := ϕ (HB2.out.trans (HA2.out.mono HB2.out.size))
 have HQ0 := ϕ (show PQ (w2.alloc (.cells #[.slice none 0 0, .slice oB om od, .slice oC ok oe] 40)) (.agg #[.slice none 0 0, .slice oB om od, .slice oC ok oe]) (Pt.mul (n / 2 ^ (16 * n2)) q) from by
  rw [HDT.out]
  exact ⟨0, 1, 1, ⟨_, _, _, rfl, FR.nil _, H1.out.below HA2.out, H2.out.below HA2.out⟩, Rep.zero⟩)
 have HD := ϕ (HD.out.below HBY.out)
 have HNV := ϕ (HNV.out.below HBY.out)
 have HQP := ϕ (HQP.out.below HBY.out)
 have HPB := ϕ (HPB.out.below HBY.out)
 have HRB := ϕ (HRB.out.below HBY.out)
 have HNE := ϕ (show ob ≠ pb ∧ ob ≠ rb ∧ w.heap.size ≤ ob from by have h1 := HN1.out; have h2 := HRL.out; have h3 := HB2.out.size; omega)
 have HB := ϕ (HB.out.trans (HBY.out.mono HB.out.size))
 try rw [hob]
 clear hob HA2 HBY HB1 HB2 H1 H2 HS1 HS2 HRL HN1
 generalize (w2.alloc (.cells #[.slice none 0 0, .slice oB om od, .slice oC ok oe] 40)) = Z0 at *
 go_wp2_with fail
 go_loopw [8] (fun i wr => ∃ k : Nat, i = .int .i64 ((k : Int) - 1) ∧ k ≤ 16 * n2 ∧ ∃ oA on oc oB om od oC ok oe, BK wr ob 40 #[.slice oA on oc, .slice oB om od, .slice oC ok oe] ∧ PQ wr (.agg #[.slice oA on oc, .slice oB om od, .slice oC ok oe]) (Pt.mul (n / 2 ^ k) q) ∧ FR wr vd dE ∧ Ns wr (.slice A2 n2 c2) (dig n) ∧ PQ wr (.agg #[.slice pA pn pc, .slice pB pm pd, .slice pC pk pe]) q ∧ BK wr pb 40 #[.slice pA pn pc, .slice pB pm pd, .slice pC pk pe] ∧ BK wr rb 40 #[.slice none 0 0, .slice none 0 0, .slice none 0 0] ∧ Below w.heap.size w wr) (fun i _ => (intOf i + 1).toNat)
 case atStart => exact ⟨16 * n2, by go_num, Nat.le_refl _, none, 0, 0, oB, om, od, oC, ok, oe, HOB.out, HQ0.out, HD.out, HNV.out, HQP.out, HPB.out, HRB.out, HB.out⟩
 case round =>
  obtain ⟨k0, rfl, hk, oA, on, oc, oB, om, od, oC, ok, oe, g1, g2, g3, g4, g5, g6, g7, g8⟩ := hrel
  clear HOB HQ0 HD HNV HQP HPB HRB HB
  have HOB := ϕ g1
  have HQ0 := ϕ g2
  have HD := ϕ g3
  have HNV := ϕ g4
  have HQP := ϕ g5
  have HPB := ϕ g6
  have HRB := ϕ g7
  have HB := ϕ g8
  clear g1 g2 g3 g4 g5 g6 g7 g8
  by_cases h0 : k0 = 0
  · subst h0
    have e1 : ((0 : Nat) : Int) - 1 = -1 := by omega
    rw [e1]
    have HQ2 := ϕ (show PQ wr (.agg #[.slice oA on oc, .slice oB om od, .slice oC ok oe]) (Pt.mul n q) from by have h := HQ0.out; rwa [Nat.pow_zero, Nat.div_one] at h)
    clear e1
    go_wp2_with (first
     | ((with_reducible refine Kx.gate_ ?_); refine Cv.load_cells rfl 40 _ rfl ob 0 rfl #[.slice oA on oc, .slice oB om od, .slice oC ok oe] _ (fun j v hv => by rw [Nat.zero_add]; exact HOB.out.cell j hv) Tryz.underlying40 rfl (by kernel_rfl) ?_; skip)
     | ((with_reducible refine Kx.gate_ ?_); refine Cv.store_blk rfl 40 _ _ rfl rb #[.slice oA on oc, .slice oB om od, .slice oC ok oe] #[.slice none 0 0, .slice none 0 0, .slice none 0 0] 40 rfl rfl HRB.out (by kernel_rfl) rfl (by simp [Value.oneCell']) ?_; intro V9 hV hgV; have HVV9 := ϕ hV; have HGV9 := ϕ hgV; clear hV hgV))
    refine bodyPost_ret (v := .agg #[.slice oA on oc, .slice oB om od, .slice oC ok oe])
     (results_cell_row Tryz.results24 _ _ rb 40 _ (0, 0) _ rfl HVV9.out Tryz.underlying40 rfl (by kernel_rfl)) rfl ?_
    have HB9 := ϕ (show Below w.heap.size w V9 from HB.out.grown HGV9.out HB.out.size (fun j e => by cases e; exact HRW.out))
    exact ⟨⟨_, rfl, HQ2.out.grown HGV9.out HRB.out nil3⟩, HB9.out⟩
  · obtain ⟨j, rfl⟩ : ∃ j, k0 = j + 1 := ⟨k0 - 1, by omega⟩
    have hge : (0 : Int) ≤ (j : Int) := by omega
    have hgd : decide ((0 : Int) ≤ (j : Int)) = true := by rw [decide_eq_true_iff]; omega
    have hke : ((j + 1 : Nat) : Int) - 1 = (j : Int) := by omega
    rw [hke]
    obtain ⟨qq, hq⟩ : ∃ q, j / 16 = q := ⟨_, rfl⟩
    obtain ⟨r, hr⟩ : ∃ r, j % 16 = r := ⟨_, rfl⟩
    have hqi : (j : Int) / 16 = (qq : Int) := by omega
    have hri : (j : Int) % 16 = (r : Int) := by omega
    have hq0 : (0 : Int) ≤ (qq : Int) := by omega
    have hql : (qq : Int) < (n2 : Int) := by omega
    have hr0 : (0 : Int) ≤ (r : Int) := by omega
    have hr16 : (r : Int) < 16 := by omega
    obtain ⟨x1, hx1⟩ : ∃ y, y = n / 65536 ^ qq % 65536 := ⟨_, rfl⟩
    have hxl : x1 < 65536 := by omega
    have HXB := ϕ (bit_at n qq r j x1 (by omega) (by omega) hx1)
    have HDG := ϕ (show ∀ W, Ns W (.slice A2 n2 c2) (dig n) → ∃ b1 o1, A2 = some ⟨b1, o1, none⟩ ∧ b1 < W.heap.size ∧ W.cell? ⟨b1, o1 + qq, none⟩ = some (.int .i64 (x1 : Nat)) from fun W hW => by
     obtain ⟨A', c', e, hR, _⟩ := hW
     cases e
     obtain ⟨b1, o1, hA1, hl1, hc⟩ := Ns.at_ hR (show qq < (dig n).length by have := HL2.out; omega)
     rw [show (dig n)[qq]'(by have := HL2.out; omega) = x1 from by have := dig_get (n := n) (i := qq) (by have := HL2.out; omega); rw [List.getElem?_eq_getElem (by have := HL2.out; omega)] at this; rw [hx1]; exact Option.some.inj this] at hc
     exact ⟨b1, o1, hA1, hl1, hc⟩)
    clear hx1 hke hq hr
    by_cases hb : n / 2 ^ j % 2 = 1
    · go_upto_region 6 with (first
       | ((with_reducible refine Kx.gate_ ?_); refine Cv.load_cells rfl 40 _ rfl ob 0 rfl #[.slice oA on oc, .slice oB om od, .slice oC ok oe] _ (fun j v hv => by rw [Nat.zero_add]; exact HOB.out.cell j hv) Tryz.underlying40 rfl (by kernel_rfl) ?_; skip)
       | (go_at_call 38; refine (add_pq wr _ _ _ _ _ HD.out HQ0.out HQ0.out).mono ?_; rintro e w1 ⟨⟨u1, rfl, hv⟩, hb⟩; have HQ1 := ϕ hv; have HB1 := ϕ hb; clear hv hb; obtain ⟨rA, rn, rc, rB, rm, rd, rC, rk, re, u1eq⟩ := HQ1.out.form; subst u1eq; have HOB1 := ϕ (HOB.out.below HB1.out))
       | ((with_reducible refine Kx.gate_ ?_); refine Cv.store_blk rfl 40 _ _ rfl ob #[.slice rA rn rc, .slice rB rm rd, .slice rC rk re] #[.slice oA on oc, .slice oB om od, .slice oC ok oe] 40 rfl rfl HOB1.out (by kernel_rfl) rfl (by simp [Value.oneCell']) ?_; intro V1 hV hgV; have HVV1 := ϕ hV; have HGV1 := ϕ hgV; clear hV hgV))
      have HD := ϕ ((HD.out.below HB1.out).grown HGV1.out HOB1.out (by intro j d; exact not_int3 (by simp) (by simp) (by simp) j d))
      have HQ1 := ϕ (HQ1.out.grown HGV1.out HOB1.out (by intro j d; exact not_int3 (by simp) (by simp) (by simp) j d))
      have HNV := ϕ (Rf.Ns.grown (HNV.out.below HB1.out) HGV1.out HOB1.out (by intro j d; exact not_int3 (by simp) (by simp) (by simp) j d))
      have HQP := ϕ ((HQP.out.below HB1.out).grown HGV1.out HOB1.out (by intro j d; exact not_int3 (by simp) (by simp) (by simp) j d))
      have HPB := ϕ (show BK V1 pb 40 #[.slice pA pn pc, .slice pB pm pd, .slice pC pk pe] from Kx.blk_other (HPB.out.below HB1.out) HGV1.out HNE.out.1)
      have HRB := ϕ (show BK V1 rb 40 #[.slice none 0 0, .slice none 0 0, .slice none 0 0] from Kx.blk_other (HRB.out.below HB1.out) HGV1.out HNE.out.2.1)
      have HB1x := ϕ (HB.out.trans (HB1.out.mono HB.out.size))
      have HB := ϕ (show Below w.heap.size w V1 from HB1x.out.grown HGV1.out HB1x.out.size (fun j e => by cases e; exact HNE.out.2.2))
      have HOB := ϕ (show BK V1 ob 40 #[.slice rA rn rc, .slice rB rm rd, .slice rC rk re] from HVV1.out)
      clear HQ0 HOB1 HGV1 HVV1 HB1 HB1x
      have hbt : ((x1 : Int) / 2 ^ r % 2) = 1 := by
       have h1 : (x1 : Int) / 2 ^ r = ((x1 / 2 ^ r : Nat) : Int) := by rw [Int.natCast_ediv, Int.natCast_pow]; rfl
       have h2 := HXB.out
       rw [h1]
       generalize x1 / 2 ^ r = t at *
       omega
      have htn : (0 : Int) ≤ (x1 : Int) / 2 ^ r := by
       have h1 : (x1 : Int) / 2 ^ r = ((x1 / 2 ^ r : Nat) : Int) := by rw [Int.natCast_ediv, Int.natCast_pow]; rfl
       rw [h1]; exact Int.natCast_nonneg _
      have hbm : ((x1 : Int) / 2 ^ r).tmod 2 = 1 := by rw [Int.tmod_eq_emod_of_nonneg htn]; exact hbt
      have hbb : (((x1 : Int) / 2 ^ r).tmod 2 == 1) = true := by rw [hbm]; rfl
      obtain ⟨b1, o1, hA1, hl1, hcell1⟩ := HDG.out V1 HNV.out
      subst hA1
      clear hbt
      have HE := ϕ (mul_bit1 q n j hb)
      clear hb
      go_wp2_with (first
       | ((with_reducible refine Kx.gate_ ?_); refine Cv.load_cells rfl 40 _ rfl ob 0 rfl #[.slice rA rn rc, .slice rB rm rd, .slice rC rk re] _ (fun j v hv => by rw [Nat.zero_add]; exact HOB.out.cell j hv) Tryz.underlying40 rfl (by kernel_rfl) ?_; skip)
       | ((with_reducible refine Kx.gate_ ?_); refine Cv.load_cells rfl 40 _ rfl pb 0 rfl #[.slice pA pn pc, .slice pB pm pd, .slice pC pk pe] _ (fun j v hv => by rw [Nat.zero_add]; exact HPB.out.cell j hv) Tryz.underlying40 rfl (by kernel_rfl) ?_; skip)
       | (go_at_call 38; refine (add_pq V1 _ _ _ _ _ HD.out HQ1.out HQP.out).mono ?_; rintro e w2 ⟨⟨u2, rfl, hv⟩, hb⟩; have HQ2 := ϕ hv; have HB2 := ϕ hb; clear hv hb; obtain ⟨sA, sn, sc, sB, sm, sd, sC, sk, se, u2eq⟩ := HQ2.out.form; subst u2eq; have HOB2 := ϕ (HOB.out.below HB2.out))
       | ((with_reducible refine Kx.gate_ ?_); refine Cv.store_blk rfl 40 _ _ rfl ob #[.slice sA sn sc, .slice sB sm sd, .slice sC sk se] #[.slice rA rn rc, .slice rB rm rd, .slice rC rk re] 40 rfl rfl HOB2.out (by kernel_rfl) rfl (by simp [Value.oneCell']) ?_; intro V2 hV hgV; have HVV2 := ϕ hV; have HGV2 := ϕ hgV; clear hV hgV))
      have HD := ϕ ((HD.out.below HB2.out).grown HGV2.out HOB2.out (by intro j d; exact not_int3 (by simp) (by simp) (by simp) j d))
      have HQ1 := ϕ (HQ2.out.grown HGV2.out HOB2.out (by intro j d; exact not_int3 (by simp) (by simp) (by simp) j d))
      have HNV := ϕ (Rf.Ns.grown (HNV.out.below HB2.out) HGV2.out HOB2.out (by intro j d; exact not_int3 (by simp) (by simp) (by simp) j d))
      have HQP := ϕ ((HQP.out.below HB2.out).grown HGV2.out HOB2.out (by intro j d; exact not_int3 (by simp) (by simp) (by simp) j d))
      have HPB := ϕ (show BK V2 pb 40 #[.slice pA pn pc, .slice pB pm pd, .slice pC pk pe] from Kx.blk_other (HPB.out.below HB2.out) HGV2.out HNE.out.1)
      have HRB := ϕ (show BK V2 rb 40 #[.slice none 0 0, .slice none 0 0, .slice none 0 0] from Kx.blk_other (HRB.out.below HB2.out) HGV2.out HNE.out.2.1)
      have HB2x := ϕ (HB.out.trans (HB2.out.mono HB.out.size))
      have HB := ϕ (show Below w.heap.size w V2 from HB2x.out.grown HGV2.out HB2x.out.size (fun j e => by cases e; exact HNE.out.2.2))
      have HOB := ϕ (show BK V2 ob 40 #[.slice sA sn sc, .slice sB sm sd, .slice sC sk se] from HVV2.out)
      go_roundw
      case rel =>
       first
        | exact ⟨j, rfl, by omega, sA, sn, sc, sB, sm, sd, sC, sk, se, HOB.out, by rw [← HE.out]; exact HQ1.out, HD.out, HNV.out, HQP.out, HPB.out, HRB.out, HB.out⟩
        | ((repeat apply Exists.intro); refine ⟨?_, rfl⟩; exact ⟨j, rfl, by omega, sA, sn, sc, sB, sm, sd, sC, sk, se, HOB.out, by rw [← HE.out]; exact HQ1.out, HD.out, HNV.out, HQP.out, HPB.out, HRB.out, HB.out⟩)
      case measure => (first | (simp [intOf]; done) | (simp [intOf]; omega))
    · replace hb : n / 2 ^ j % 2 = 0 := by omega
      go_upto_region 6 with (first
       | ((with_reducible refine Kx.gate_ ?_); refine Cv.load_cells rfl 40 _ rfl ob 0 rfl #[.slice oA on oc, .slice oB om od, .slice oC ok oe] _ (fun j v hv => by rw [Nat.zero_add]; exact HOB.out.cell j hv) Tryz.underlying40 rfl (by kernel_rfl) ?_; skip)
       | (go_at_call 38; refine (add_pq wr _ _ _ _ _ HD.out HQ0.out HQ0.out).mono ?_; rintro e w1 ⟨⟨u1, rfl, hv⟩, hb⟩; have HQ1 := ϕ hv; have HB1 := ϕ hb; clear hv hb; obtain ⟨rA, rn, rc, rB, rm, rd, rC, rk, re, u1eq⟩ := HQ1.out.form; subst u1eq; have HOB1 := ϕ (HOB.out.below HB1.out))
       | ((with_reducible refine Kx.gate_ ?_); refine Cv.store_blk rfl 40 _ _ rfl ob #[.slice rA rn rc, .slice rB rm rd, .slice rC rk re] #[.slice oA on oc, .slice oB om od, .slice oC ok oe] 40 rfl rfl HOB1.out (by kernel_rfl) rfl (by simp [Value.oneCell']) ?_; intro V1 hV hgV; have HVV1 := ϕ hV; have HGV1 := ϕ hgV; clear hV hgV))
      have HD := ϕ ((HD.out.below HB1.out).grown HGV1.out HOB1.out (by intro j d; exact not_int3 (by simp) (by simp) (by simp) j d))
      have HQ1 := ϕ (HQ1.out.grown HGV1.out HOB1.out (by intro j d; exact not_int3 (by simp) (by simp) (by simp) j d))
      have HNV := ϕ (Rf.Ns.grown (HNV.out.below HB1.out) HGV1.out HOB1.out (by intro j d; exact not_int3 (by simp) (by simp) (by simp) j d))
      have HQP := ϕ ((HQP.out.below HB1.out).grown HGV1.out HOB1.out (by intro j d; exact not_int3 (by simp) (by simp) (by simp) j d))
      have HPB := ϕ (show BK V1 pb 40 #[.slice pA pn pc, .slice pB pm pd, .slice pC pk pe] from Kx.blk_other (HPB.out.below HB1.out) HGV1.out HNE.out.1)
      have HRB := ϕ (show BK V1 rb 40 #[.slice none 0 0, .slice none 0 0, .slice none 0 0] from Kx.blk_other (HRB.out.below HB1.out) HGV1.out HNE.out.2.1)
      have HB1x := ϕ (HB.out.trans (HB1.out.mono HB.out.size))
      have HB := ϕ (show Below w.heap.size w V1 from HB1x.out.grown HGV1.out HB1x.out.size (fun j e => by cases e; exact HNE.out.2.2))
      have HOB := ϕ (show BK V1 ob 40 #[.slice rA rn rc, .slice rB rm rd, .slice rC rk re] from HVV1.out)
      clear HQ0 HOB1 HGV1 HVV1 HB1 HB1x
      have hbt : ((x1 : Int) / 2 ^ r % 2) = 0 := by
       have h1 : (x1 : Int) / 2 ^ r = ((x1 / 2 ^ r : Nat) : Int) := by rw [Int.natCast_ediv, Int.natCast_pow]; rfl
       have h2 := HXB.out
       rw [h1]
       generalize x1 / 2 ^ r = t at *
       omega
      have htn : (0 : Int) ≤ (x1 : Int) / 2 ^ r := by
       have h1 : (x1 : Int) / 2 ^ r = ((x1 / 2 ^ r : Nat) : Int) := by rw [Int.natCast_ediv, Int.natCast_pow]; rfl
       rw [h1]; exact Int.natCast_nonneg _
      have hbm : ((x1 : Int) / 2 ^ r).tmod 2 = 0 := by rw [Int.tmod_eq_emod_of_nonneg htn]; exact hbt
      have hbb : (((x1 : Int) / 2 ^ r).tmod 2 == 1) = false := by rw [hbm]; rfl
      obtain ⟨b1, o1, hA1, hl1, hcell1⟩ := HDG.out V1 HNV.out
      subst hA1
      clear hbt
      have HE := ϕ (mul_bit0 q n j hb)
      clear hb
      go_wp2_with fail
      go_roundw
      case rel =>
       first
        | exact ⟨j, rfl, by omega, rA, rn, rc, rB, rm, rd, rC, rk, re, HOB.out, by rw [← HE.out]; exact HQ1.out, HD.out, HNV.out, HQP.out, HPB.out, HRB.out, HB.out⟩
        | ((repeat apply Exists.intro); refine ⟨?_, rfl⟩; exact ⟨j, rfl, by omega, rA, rn, rc, rB, rm, rd, rC, rk, re, HOB.out, by rw [← HE.out]; exact HQ1.out, HD.out, HNV.out, HQP.out, HPB.out, HRB.out, HB.out⟩)
      case measure => (first | (simp [intOf]; done) | (simp [intOf]; omega))
/-- a byte set -/
theorem bytes_set {w : World} {b : Nat} {l : List UInt8} (h : Cv.Bytes w b 0 l) (j : Nat) (x : UInt8) (hj : j < l.length) : Cv.Bytes (w.setCell ⟨b, j, none⟩ (.int .u8 (x.toNat : Int))) b 0 (l.set j x) := fun k y hy => by
 have hk : k < l.length := by have := (List.getElem?_eq_some_iff.1 hy).1; rwa [List.length_set] at this
 have hc := h k l[k] (List.getElem?_eq_getElem hk)
 rw [Nat.zero_add] at hc ⊢
 by_cases e : k = j
 · subst e
   rw [List.getElem?_set_self hk] at hy
   cases hy
   exact World.cell?_setCell_same _ _ _ hc
 · rw [List.getElem?_set_ne (fun h => e h.symm)] at hy
   rw [World.cell?_setCell_other _ _ _ _ (fun e2 => e (by cases e2; rfl)), hc]
   rw [List.getElem?_eq_getElem hk] at hy
   cases hy; rfl
theorem enc_0 {p : Pt} (h : p.x.val % 2 = 0) : toLe 32 p.y.val = enc p := by unfold enc encN; rw [h, Nat.mul_zero, Nat.add_zero]
theorem top_lt128 (p : Pt) : p.y.val / 256 ^ 31 < 128 := Nat.div_lt_of_lt_mul (Nat.lt_of_lt_of_le (y_lt p.y) (by decide +kernel))
theorem enc_1 {p : Pt} (h : p.x.val % 2 = 1) : (toLe 32 p.y.val).set 31 (UInt8.ofNat (p.y.val / 256 ^ 31 + 128)) = enc p := by
 have ht := top_lt128 p
 unfold enc encN
 rw [h, Nat.mul_one]
 generalize p.y.val = y at *
 apply List.ext_getElem?
 intro i
 by_cases hi : i < 32
 · rw [toLe_get 32 _ i hi]
   by_cases e : i = 31
   · subst e
     rw [List.getElem?_set_self (by rw [toLe_len]; omega)]
     congr 2
     rw [show (2 : Nat) ^ 255 = 128 * 256 ^ 31 from by decide +kernel, Nat.add_mul_div_right _ _ (Nat.pow_pos (by decide))]
     omega
   · rw [List.getElem?_set_ne (fun h => e h.symm), toLe_get 32 _ i hi]
     congr 2
     rw [show (2 : Nat) ^ 255 = 128 * 256 ^ (30 - i) * 256 * 256 ^ i from by
      rw [Nat.mul_assoc, Nat.mul_assoc, ← Nat.pow_succ', ← Nat.pow_add, show 30 - i + (i + 1) = 31 by omega]]
     rw [Nat.add_mul_div_right _ _ (Nat.pow_pos (by decide)), Nat.add_mul_mod_self_right]
 · rw [List.getElem?_eq_none (by rw [List.length_set, toLe_len]; omega), List.getElem?_eq_none (by rw [toLe_len]; omega)]
theorem bytes8_any (w : World) (v : Value) (p : Pt) (h : PQ w v p) : Calls Tryz.prog 23 #[v] w fun e w' => e = .returned (.string ⟨(enc p).toArray⟩) ∧ Below w.heap.size w w' := by
 obtain ⟨X, Y0, Z, ⟨vx, vy, vz, rfl, h1, h2, h3⟩, hr⟩ := h
 have HX := ϕ h1
 have HY := ϕ h2
 have HZ := ϕ h3
 have HEX := ϕ hr.x_eq
 have HEY := ϕ hr.y_eq
 clear h1 h2 h3 hr
 go_enter Tryz.func23, Tryz.ntmps23
 go_upto_region 1 with ((with_reducible refine Kx.gate_ ?_); refine Rg.box_fresh rfl 40 _ rfl #[vx, vy, vz] rfl ?_; intro Y hX hbX hnX; have HP := ϕ hX; have HB := ϕ hbX; clear hX hbX hnX)
 obtain ⟨pb, hpb⟩ : ∃ n, w.heap.size = n := ⟨_, rfl⟩
 have HPB := ϕ (show BK Y pb 40 #[vx, vy, vz] from hpb ▸ HP.out)
 try rw [hpb]
 have HX := ϕ (HX.out.below HB.out)
 have HY := ϕ (HY.out.below HB.out)
 have HZ := ϕ (HZ.out.below HB.out)
 have p0 := HPB.out.cell 0 (v := vx) rfl
 have p1 := HPB.out.cell 1 (v := vy) rfl
 have p2 := HPB.out.cell 2 (v := vz) rfl
 clear HP hpb
 cases ho : (p.x.val % 2 == 1)
 · have HOD := ϕ (show (p.x.val % 2 == 1) = false from ho)
   have HPX := ϕ (show p.x.val % 2 = 0 by rw [beq_eq_false_iff_ne] at ho; omega)
   clear ho
   have tk1 := True.intro
   go_upto_region 3 with (first
    | (have _t := tk1; go_at_call 43; refine (invert_any Y _ _ HZ.out).mono ?_; rintro e w1x ⟨⟨iv, rfl, hv⟩, hb⟩; have HX := ϕ (HX.out.below hb); have HY := ϕ (HY.out.below hb); have HPB := ϕ (HPB.out.below hb); have HIV := ϕ hv; replace p0 := HPB.out.cell 0 (v := vx) rfl; replace p1 := HPB.out.cell 1 (v := vy) rfl; replace p2 := HPB.out.cell 2 (v := vz) rfl; have HB := tm HB hb; clear hb hv _t tk1; have tk2 := True.intro)
    | (have _t := tk2; go_at_call 40; refine (mul8_any w1x _ _ _ _ HY.out HIV.out).mono ?_; rintro e w2x ⟨⟨my, rfl, hv⟩, hb⟩; have HX := ϕ (HX.out.below hb); have HPB := ϕ (HPB.out.below hb); have HIV := ϕ (HIV.out.below hb); have HMY := ϕ hv; replace p0 := HPB.out.cell 0 (v := vx) rfl; replace p1 := HPB.out.cell 1 (v := vy) rfl; replace p2 := HPB.out.cell 2 (v := vz) rfl; have HB := tm HB hb; clear hb hv _t tk2; have tk3 := True.intro)
    | (have _t := tk3; go_at_call 57; refine (bytes_any w2x _ p.y (HEY.out ▸ HMY.out)).mono ?_; rintro e w3x ⟨rfl, hb⟩; have HX := ϕ (HX.out.below hb); have HPB := ϕ (HPB.out.below hb); have HIV := ϕ (HIV.out.below hb); replace p0 := HPB.out.cell 0 (v := vx) rfl; replace p1 := HPB.out.cell 1 (v := vy) rfl; replace p2 := HPB.out.cell 2 (v := vz) rfl; have HB := tm HB hb; clear hb  _t tk3; have tk4 := True.intro)
    | ((with_reducible refine Kx.gate_ ?_); refine Cv.conv_bytes rfl 9 25 5 _ rfl rfl Tryz.underlying9 Tryz.underlying25 Tryz.underlying5 ?_; intro V cap hV hfV hbV hnV hcV; have HV := ϕ hV; have HFV := ϕ hfV; have HBV := ϕ hbV; have HNV := ϕ hnV; clear hV hfV hbV hnV hcV))
   have HSZ := ϕ (toLe_len 32 p.y.val)
   obtain ⟨sb, hsb⟩ : ∃ n, w3x.heap.size = n := ⟨_, rfl⟩
   have HV := ϕ (show Cv.Bytes V sb 0 (toLe 32 p.y.val) from hsb ▸ HV.out)
   have HSB := ϕ (show sb < V.heap.size from by have h := HNV.out; omega)
   have HX := ϕ (HX.out.below HBV.out)
   have HIV := ϕ (HIV.out.below HBV.out)
   have HPB := ϕ (HPB.out.below HBV.out)
   have HB := ϕ (HB.out.trans (HBV.out.mono HB.out.size))
   try rw [hsb]
   clear hsb HNV HBV
   replace p0 := HPB.out.cell 0 (v := vx) rfl
   clear p1 p2
   have hL := HSZ.out
   have tm1 := True.intro
   go_upto_region 5 with (first
    | (have _t := tm1; go_at_call 40; refine (mul8_any V _ _ _ _ HX.out HIV.out).mono ?_; rintro e w1x ⟨⟨mx, rfl, hv⟩, hb⟩; have HPB := ϕ (HPB.out.below hb); have HMX := ϕ hv; replace p0 := HPB.out.cell 0 (v := vx) rfl; have HB := tm HB hb; have HV := ϕ (HV.out.below hb HSB.out); have HSB := ϕ (Nat.lt_of_lt_of_le HSB.out hb.size); clear hb hv _t tm1; have tm2 := True.intro)
    | (have _t := tm2; go_at_call 58; refine (odd_any w1x _ p.x (HEX.out ▸ HMX.out)).mono ?_; rw [HOD.out]; rintro e w2x ⟨rfl, hb⟩; have HPB := ϕ (HPB.out.below hb); replace p0 := HPB.out.cell 0 (v := vx) rfl; have HB := tm HB hb; have HV := ϕ (HV.out.below hb HSB.out); clear hb  _t tm2; have tm3 := True.intro))
   have cs := Cv.run_string_bytes (P := Tryz.prog) w2x 25 5 9 Tryz.underlying25 Tryz.underlying5 Tryz.underlying9 sb 0 cap (toLe 32 p.y.val) HV.out
   rw [toLe_len] at cs
   have HE0 := ϕ (enc_0 HPX.out)
   go_wp2_with fail
   go_ret
   exact ⟨by rw [← HE0.out]; rfl, HB.out⟩
 · have HOD := ϕ (show (p.x.val % 2 == 1) = true from ho)
   have HPX := ϕ (show p.x.val % 2 = 1 by exact beq_iff_eq.1 ho)
   clear ho
   have tk1 := True.intro
   go_upto_region 3 with (first
    | (have _t := tk1; go_at_call 43; refine (invert_any Y _ _ HZ.out).mono ?_; rintro e w1x ⟨⟨iv, rfl, hv⟩, hb⟩; have HX := ϕ (HX.out.below hb); have HY := ϕ (HY.out.below hb); have HPB := ϕ (HPB.out.below hb); have HIV := ϕ hv; replace p0 := HPB.out.cell 0 (v := vx) rfl; replace p1 := HPB.out.cell 1 (v := vy) rfl; replace p2 := HPB.out.cell 2 (v := vz) rfl; have HB := tm HB hb; clear hb hv _t tk1; have tk2 := True.intro)
    | (have _t := tk2; go_at_call 40; refine (mul8_any w1x _ _ _ _ HY.out HIV.out).mono ?_; rintro e w2x ⟨⟨my, rfl, hv⟩, hb⟩; have HX := ϕ (HX.out.below hb); have HPB := ϕ (HPB.out.below hb); have HIV := ϕ (HIV.out.below hb); have HMY := ϕ hv; replace p0 := HPB.out.cell 0 (v := vx) rfl; replace p1 := HPB.out.cell 1 (v := vy) rfl; replace p2 := HPB.out.cell 2 (v := vz) rfl; have HB := tm HB hb; clear hb hv _t tk2; have tk3 := True.intro)
    | (have _t := tk3; go_at_call 57; refine (bytes_any w2x _ p.y (HEY.out ▸ HMY.out)).mono ?_; rintro e w3x ⟨rfl, hb⟩; have HX := ϕ (HX.out.below hb); have HPB := ϕ (HPB.out.below hb); have HIV := ϕ (HIV.out.below hb); replace p0 := HPB.out.cell 0 (v := vx) rfl; replace p1 := HPB.out.cell 1 (v := vy) rfl; replace p2 := HPB.out.cell 2 (v := vz) rfl; have HB := tm HB hb; clear hb  _t tk3; have tk4 := True.intro)
    | ((with_reducible refine Kx.gate_ ?_); refine Cv.conv_bytes rfl 9 25 5 _ rfl rfl Tryz.underlying9 Tryz.underlying25 Tryz.underlying5 ?_; intro V cap hV hfV hbV hnV hcV; have HV := ϕ hV; have HFV := ϕ hfV; have HBV := ϕ hbV; have HNV := ϕ hnV; clear hV hfV hbV hnV hcV))
   have HSZ := ϕ (toLe_len 32 p.y.val)
   obtain ⟨sb, hsb⟩ : ∃ n, w3x.heap.size = n := ⟨_, rfl⟩
   have HV := ϕ (show Cv.Bytes V sb 0 (toLe 32 p.y.val) from hsb ▸ HV.out)
   have HFV := ϕ (show ∀ j, j < 32 → V.frozen? ⟨sb, j, none⟩ = false from fun j hj => hsb ▸ HFV.out j (by show j < (toLe 32 p.y.val).toArray.size; rw [List.size_toArray, HSZ.out]; exact hj))
   have HSB := ϕ (show sb < V.heap.size from by have h := HNV.out; omega)
   have HSB0 := ϕ (show w.heap.size ≤ sb from by rw [← hsb]; exact HB.out.size)
   have HX := ϕ (HX.out.below HBV.out)
   have HIV := ϕ (HIV.out.below HBV.out)
   have HPB := ϕ (HPB.out.below HBV.out)
   have HB := ϕ (HB.out.trans (HBV.out.mono HB.out.size))
   try rw [hsb]
   clear hsb HNV HBV
   replace p0 := HPB.out.cell 0 (v := vx) rfl
   clear p1 p2
   have hL := HSZ.out
   have tm1 := True.intro
   go_upto_region 4 with (first
    | (have _t := tm1; go_at_call 40; refine (mul8_any V _ _ _ _ HX.out HIV.out).mono ?_; rintro e w1x ⟨⟨mx, rfl, hv⟩, hb⟩; have HPB := ϕ (HPB.out.below hb); have HMX := ϕ hv; replace p0 := HPB.out.cell 0 (v := vx) rfl; have HB := tm HB hb; have HV := ϕ (HV.out.below hb HSB.out); have HFV := ϕ (show ∀ j, j < 32 → World.frozen? _ ⟨sb, j, none⟩ = false from fun j hj => (hb.frozen (p := ⟨sb, j, none⟩) HSB.out).trans (HFV.out j hj)); have HSB := ϕ (Nat.lt_of_lt_of_le HSB.out hb.size); clear hb hv _t tm1; have tm2 := True.intro)
    | (have _t := tm2; go_at_call 58; refine (odd_any w1x _ p.x (HEX.out ▸ HMX.out)).mono ?_; rw [HOD.out]; rintro e w2x ⟨rfl, hb⟩; have HPB := ϕ (HPB.out.below hb); replace p0 := HPB.out.cell 0 (v := vx) rfl; have HB := tm HB hb; have HV := ϕ (HV.out.below hb HSB.out); have HFV := ϕ (show ∀ j, j < 32 → World.frozen? _ ⟨sb, j, none⟩ = false from fun j hj => (hb.frozen (p := ⟨sb, j, none⟩) HSB.out).trans (HFV.out j hj)); clear hb  _t tm2; have tm3 := True.intro))
   have HTL := ϕ (top_lt128 p)
   have HE1 := ϕ (enc_1 HPX.out)
   have hc31 : w2x.cell? ⟨sb, 31, none⟩ = some (.int .u8 ((p.y.val / 256 ^ 31 : Nat) : Int)) := by
    have h := HV.out 31 (UInt8.ofNat (p.y.val / 256 ^ 31 % 256)) (toLe_get 32 p.y.val 31 (by omega))
    have h2 := HTL.out
    rw [Nat.zero_add, UInt8.toNat_ofNat'] at h
    rw [h]
    congr 3
    omega
   have hf31 := HFV.out 31 (by omega)
   obtain ⟨x, hx⟩ : ∃ x, x = p.y.val / 256 ^ 31 := ⟨_, rfl⟩
   rw [← hx] at hc31
   have hx8 : x < 128 := by rw [hx]; exact HTL.out
   have HVS := ϕ (show Cv.Bytes (w2x.setCell ⟨sb, 31, none⟩ (.int .u8 ((x : Int) + 128))) sb 0 (enc p) from by
    have h := bytes_set HV.out 31 (UInt8.ofNat (x + 128)) (by rw [HSZ.out]; omega)
    rw [hx, HE1.out, ← hx, show (((UInt8.ofNat (x + 128)).toNat : Nat) : Int) = (x : Int) + 128 from by rw [UInt8.toNat_ofNat']; omega] at h
    exact h)
   have HBS := ϕ (show Below w.heap.size w (w2x.setCell ⟨sb, 31, none⟩ (.int .u8 ((x : Int) + 128))) from HB.out.grown (Cl.grown_setCell _ sb 31 _) HB.out.size (fun j e => by cases e; exact HSB0.out))
   clear hx
   have cs := Cv.run_string_bytes (P := Tryz.prog) (w2x.setCell ⟨sb, 31, none⟩ (.int .u8 ((x : Int) + 128))) 25 5 9 Tryz.underlying25 Tryz.underlying5 Tryz.underlying9 sb 0 cap (enc p) HVS.out
   rw [enc_len] at cs
   go_wp2_with fail
   go_ret
   exact ⟨rfl, HBS.out⟩
theorem str_eq {S : ByteArray} {l : List UInt8} (h : l = S.data.toList) : (⟨l.toArray⟩ : ByteArray) = S := by
 apply ByteArray.ext; apply Array.toList_inj.1; exact h
theorem str_ne {A S : ByteArray} (h : A ≠ S) : (A.toList == S.toList) = false := by
 rw [beq_eq_false_iff_ne, ByteArray.toList_eq, ByteArray.toList_eq]
 exact fun e => h (ByteArray.ext (Array.toList_inj.1 e))
theorem upd_weak {a b : World} (s : List Nat) (h : Below a.heap.size a b) : Sp.Upd a b s := ⟨h.os, h.tape, h.output, h.size, fun k hk _ => h.block k hk⟩
theorem read8_any (w : World) (vd : Value) (S : ByteArray) (hd : FR w vd dE) (hs : S.size = 32) :
 Calls Tryz.prog 16 #[vd, .string S] w fun e w' => (∃ u, e = .returned (.tuple #[u, .bool (dec S.data.toList).isSome]) ∧ (∃ A1 n1 c1 A2 n2 c2 A3 n3 c3, u = .agg #[.slice A1 n1 c1, .slice A2 n2 c2, .slice A3 n3 c3]) ∧ ∀ p, dec S.data.toList = some p → PQ w' u p) ∧ Below w.heap.size w w' := by
 have HD := ϕ hd
 have HSZ := ϕ hs
 obtain ⟨y, hy⟩ : ∃ y, yOf S.data.toList = y := ⟨_, rfl⟩
 have HYD := ϕ hy
 go_enter Tryz.func16, Tryz.ntmps16
 go_upto_region 1 with fail
 obtain ⟨rb, hrb⟩ : ∃ n, w.heap.size = n := ⟨_, rfl⟩
 have HB := ϕ (show Below w.heap.size w (w.alloc (.cells #[.slice none 0 0, .slice none 0 0, .slice none 0 0] 40)) from (Below.refl _ _).alloc (Nat.le_refl _) _)
 have HRB := ϕ (show BK (w.alloc (.cells #[.slice none 0 0, .slice none 0 0, .slice none 0 0] 40)) rb 40 #[.slice none 0 0, .slice none 0 0, .slice none 0 0] from Rg.Blk.newAt hrb.symm _ _)
 have HRW := ϕ (show w.heap.size ≤ rb from by omega)
 have HD := ϕ (HD.out.below HB.out)
 try rw [hrb]
 clear hrb hd
 generalize (w.alloc (.cells #[.slice none 0 0, .slice none 0 0, .slice none 0 0] 40)) = Y at *
 cases hr : rt ((y * y - 1) * Ed.inv (dE * (y * y) + 1)) with
 | none =>
  have HRT := ϕ hr
  have HDN := ϕ (show dec S.data.toList = none from dec_none (by rw [hy]; exact hr))
  clear hr hy
  have tk1 := True.intro
  go_wp2_with (first
   | (have _t := tk1; go_at_call 39; refine (of_any Y S HSZ.out).mono ?_; rintro e w1x ⟨⟨vy, rfl, hv⟩, hb⟩; have HD := ϕ (HD.out.below hb); have HRB := ϕ (HRB.out.below hb); have HY := ϕ (show FR _ vy y from by rw [← HYD.out]; exact hv); have HB := tm HB hb; clear hb hv _t tk1; have tk2 := True.intro)
   | (have _t := tk2; go_at_call 40; refine (mul8_any w1x _ _ _ _ HY.out HY.out).mono ?_; rintro e w2x ⟨⟨yy, rfl, hv⟩, hb⟩; have HD := ϕ (HD.out.below hb); have HRB := ϕ (HRB.out.below hb); have HYY := ϕ hv; have HB := tm HB hb; clear hb hv _t tk2; have tk3 := True.intro)
   | (have _t := tk3; go_at_call 41; refine (Small_any w2x 1 (by omega)).mono ?_; rintro e w3x ⟨⟨one, rfl, hv⟩, hb⟩; have HD := ϕ (HD.out.below hb); have HRB := ϕ (HRB.out.below hb); have HYY := ϕ (HYY.out.below hb); have HONE := ϕ (show FR _ one 1 from hv); have HB := tm HB hb; clear hb hv _t tk3; have tk4 := True.intro)
   | (have _t := tk4; go_at_call 37; refine (sub_any w3x _ _ _ _ HYY.out HONE.out).mono ?_; rintro e w4x ⟨⟨a1, rfl, hv⟩, hb⟩; have HD := ϕ (HD.out.below hb); have HRB := ϕ (HRB.out.below hb); have HYY := ϕ (HYY.out.below hb); have HONE := ϕ (HONE.out.below hb); have HA1 := ϕ hv; have HB := tm HB hb; clear hb hv _t tk4; have tk5 := True.intro)
   | (have _t := tk5; go_at_call 40; refine (mul8_any w4x _ _ _ _ HD.out HYY.out).mono ?_; rintro e w5x ⟨⟨a2, rfl, hv⟩, hb⟩; have HRB := ϕ (HRB.out.below hb); have HONE := ϕ (HONE.out.below hb); have HA1 := ϕ (HA1.out.below hb); have HA2 := ϕ hv; have HB := tm HB hb; clear hb hv _t tk5; have tk6 := True.intro)
   | (have _t := tk6; go_at_call 44; refine (add_any w5x _ _ _ _ HA2.out HONE.out).mono ?_; rintro e w6x ⟨⟨a3, rfl, hv⟩, hb⟩; have HRB := ϕ (HRB.out.below hb); have HONE := ϕ (HONE.out.below hb); have HA1 := ϕ (HA1.out.below hb); have HA3 := ϕ hv; have HB := tm HB hb; clear hb hv _t tk6; have tk7 := True.intro)
   | (have _t := tk7; go_at_call 43; refine (invert_any w6x _ _ HA3.out).mono ?_; rintro e w7x ⟨⟨a4, rfl, hv⟩, hb⟩; have HRB := ϕ (HRB.out.below hb); have HONE := ϕ (HONE.out.below hb); have HA1 := ϕ (HA1.out.below hb); have HA4 := ϕ hv; have HB := tm HB hb; clear hb hv _t tk7; have tk8 := True.intro)
   | (have _t := tk8; go_at_call 40; refine (mul8_any w7x _ _ _ _ HA1.out HA4.out).mono ?_; rintro e w8x ⟨⟨a5, rfl, hv⟩, hb⟩; have HRB := ϕ (HRB.out.below hb); have HONE := ϕ (HONE.out.below hb); have HA5 := ϕ hv; have HB := tm HB hb; clear hb hv _t tk8; have tk9 := True.intro)
   | (have _t := tk9; go_at_call 42; refine (root_any w8x _ _ HA5.out).mono ?_; rw [HRT.out]; rintro e w9x ⟨⟨vx, rfl, hv⟩, hb⟩; have HRB := ϕ (HRB.out.below hb); have HONE := ϕ (HONE.out.below hb); have HVX := ϕ hv; have HB := tm HB hb; clear hb hv _t tk9; have tk10 := True.intro; obtain ⟨oA, on, oc, hox⟩ := HONE.out.form; subst hox)
   | ((with_reducible refine Kx.gate_ ?_); refine Cv.store_blk rfl 40 _ _ rfl rb #[.slice none 0 0, .slice oA on oc, .slice oA on oc] #[.slice none 0 0, .slice none 0 0, .slice none 0 0] 40 rfl rfl HRB.out (by kernel_rfl) rfl (by simp [Value.oneCell']) ?_; intro V9 hV hgV; have HVV9 := ϕ hV; have HGV9 := ϕ hgV; clear hV hgV))
  have HB9 := ϕ (show Below w.heap.size w V9 from HB.out.grown HGV9.out HB.out.size (fun j e => by cases e; exact HRW.out))
  refine bodyPost_ret (v := .tuple #[.agg #[.slice none 0 0, .slice oA on oc, .slice oA on oc], .bool false])
   (results_cell_slot Tryz.results16 _ _ rb 40 _ (0, 0) _ _ rfl rfl HVV9.out Tryz.underlying40 rfl (by kernel_rfl)) rfl ?_
  refine ⟨⟨_, by rw [HDN.out]; rfl, ⟨_, _, _, _, _, _, _, _, _, rfl⟩, fun p hp => ?_⟩, HB9.out⟩
  rw [HDN.out] at hp
  exact none_no hp
 | some r =>
  have HRT := ϕ hr
  have hr2 : rt (xz (yOf S.data.toList)) = some r := by rw [hy]; exact hr
  have hdo := dec_of hr2
  obtain ⟨p, hp⟩ : ∃ p : Pt, p = ⟨sgn S.data.toList r, yOf S.data.toList, on_s (rt_sq hr2)⟩ := ⟨_, rfl⟩
  rw [← hp] at hdo
  have HPYE := ϕ (show p.y = y by rw [hp]; exact hy)
  have HBY := ϕ (fun W (v : Value) (h : PQ W v p) => bytes8_any W v p h)
  obtain ⟨c31, hc31⟩ : ∃ c, S[31]'(by omega) = c := ⟨_, rfl⟩
  have hgd : S.data.toList.getD 31 0 = c31 := by
   have h1 := get_list S 31 (by omega)
   rw [List.getD_eq_getElem?_getD, h1, hc31]; rfl
  by_cases hn : 128 ≤ c31.toNat
  · skip
    have HPXE := ϕ (show p.x = 0 - r by rw [hp]; show sgn _ _ = _; unfold sgn; rw [hgd, if_pos hn])
    have hnd : decide ((128 : Int) ≤ (c31.toNat : Int)) = true := by rw [decide_eq_true_iff]; omega
    have hni : (128 : Int) ≤ (c31.toNat : Int) := by omega
    by_cases hf : enc p = S.data.toList
    · have HEQ := ϕ (str_eq hf)
      have HDO := ϕ (show dec S.data.toList = some p by rw [hdo, if_pos hf])
      have HBY := ϕ (show ∀ W v, PQ W v p → Calls Tryz.prog 23 #[v] W fun e w' => e = .returned (.string S) ∧ Below W.heap.size W w' from fun W v h => by
       have h2 := HBY.out W v h
       rwa [HEQ.out] at h2)
      clear hr hr2 hp hy hn hdo hf hgd
      have tk1 := True.intro
      go_upto_region 10 with (first
       | (have _t := tk1; go_at_call 39; refine (of_any Y S HSZ.out).mono ?_; rintro e w1x ⟨⟨vy, rfl, hv⟩, hb⟩; have HD := ϕ (HD.out.below hb); have HRB := ϕ (HRB.out.below hb); have HY := ϕ (show FR _ vy y from by rw [← HYD.out]; exact hv); have HB := tm HB hb; clear hb hv _t tk1; have tk2 := True.intro)
       | (have _t := tk2; go_at_call 40; refine (mul8_any w1x _ _ _ _ HY.out HY.out).mono ?_; rintro e w2x ⟨⟨yy, rfl, hv⟩, hb⟩; have HD := ϕ (HD.out.below hb); have HRB := ϕ (HRB.out.below hb); have HY := ϕ (HY.out.below hb); have HYY := ϕ hv; have HB := tm HB hb; clear hb hv _t tk2; have tk3 := True.intro)
       | (have _t := tk3; go_at_call 41; refine (Small_any w2x 1 (by omega)).mono ?_; rintro e w3x ⟨⟨one, rfl, hv⟩, hb⟩; have HD := ϕ (HD.out.below hb); have HRB := ϕ (HRB.out.below hb); have HY := ϕ (HY.out.below hb); have HYY := ϕ (HYY.out.below hb); have HONE := ϕ (show FR _ one 1 from hv); have HB := tm HB hb; clear hb hv _t tk3; have tk4 := True.intro)
       | (have _t := tk4; go_at_call 37; refine (sub_any w3x _ _ _ _ HYY.out HONE.out).mono ?_; rintro e w4x ⟨⟨a1, rfl, hv⟩, hb⟩; have HD := ϕ (HD.out.below hb); have HRB := ϕ (HRB.out.below hb); have HY := ϕ (HY.out.below hb); have HYY := ϕ (HYY.out.below hb); have HONE := ϕ (HONE.out.below hb); have HA1 := ϕ hv; have HB := tm HB hb; clear hb hv _t tk4; have tk5 := True.intro)
       | (have _t := tk5; go_at_call 40; refine (mul8_any w4x _ _ _ _ HD.out HYY.out).mono ?_; rintro e w5x ⟨⟨a2, rfl, hv⟩, hb⟩; have HRB := ϕ (HRB.out.below hb); have HY := ϕ (HY.out.below hb); have HONE := ϕ (HONE.out.below hb); have HA1 := ϕ (HA1.out.below hb); have HA2 := ϕ hv; have HB := tm HB hb; clear hb hv _t tk5; have tk6 := True.intro)
       | (have _t := tk6; go_at_call 44; refine (add_any w5x _ _ _ _ HA2.out HONE.out).mono ?_; rintro e w6x ⟨⟨a3, rfl, hv⟩, hb⟩; have HRB := ϕ (HRB.out.below hb); have HY := ϕ (HY.out.below hb); have HONE := ϕ (HONE.out.below hb); have HA1 := ϕ (HA1.out.below hb); have HA3 := ϕ hv; have HB := tm HB hb; clear hb hv _t tk6; have tk7 := True.intro)
       | (have _t := tk7; go_at_call 43; refine (invert_any w6x _ _ HA3.out).mono ?_; rintro e w7x ⟨⟨a4, rfl, hv⟩, hb⟩; have HRB := ϕ (HRB.out.below hb); have HY := ϕ (HY.out.below hb); have HONE := ϕ (HONE.out.below hb); have HA1 := ϕ (HA1.out.below hb); have HA4 := ϕ hv; have HB := tm HB hb; clear hb hv _t tk7; have tk8 := True.intro)
       | (have _t := tk8; go_at_call 40; refine (mul8_any w7x _ _ _ _ HA1.out HA4.out).mono ?_; rintro e w8x ⟨⟨a5, rfl, hv⟩, hb⟩; have HRB := ϕ (HRB.out.below hb); have HY := ϕ (HY.out.below hb); have HONE := ϕ (HONE.out.below hb); have HA5 := ϕ hv; have HB := tm HB hb; clear hb hv _t tk8; have tk9 := True.intro)
       | (have _t := tk9; go_at_call 42; refine (root_any w8x _ _ HA5.out).mono ?_; rw [HRT.out]; rintro e w9x ⟨⟨vx, rfl, hv⟩, hb⟩; have HRB := ϕ (HRB.out.below hb); have HY := ϕ (HY.out.below hb); have HONE := ϕ (HONE.out.below hb); have HVX := ϕ hv; have HB := tm HB hb; clear hb hv _t tk9; have tk10 := True.intro)
       | (have _t := tk10; go_at_call 37; refine (sub_any w9x _ _ _ _ (FR.nil _) HVX.out).mono ?_; rintro e w10x ⟨⟨nx, rfl, hv⟩, hb⟩; have HRB := ϕ (HRB.out.below hb); have HY := ϕ (HY.out.below hb); have HONE := ϕ (HONE.out.below hb); have HNX := ϕ hv; have HB := tm HB hb; clear hb hv _t tk10; have tk11 := True.intro; have HPX := ϕ (show FR _ nx p.x from HPXE.out ▸ HNX.out); obtain ⟨oA, on, oc, hox⟩ := HPX.out.form; subst hox; obtain ⟨oB, om, od, hoy⟩ := HY.out.form; subst hoy; obtain ⟨oC, ok, oe, hoz⟩ := HONE.out.form; subst hoz))
      obtain ⟨qb, hqb⟩ : ∃ n, w10x.heap.size = n := ⟨_, rfl⟩
      have HA9 := ϕ (show Below w10x.heap.size w10x (w10x.alloc (.cells #[.slice oA on oc, .slice oB om od, .slice oC ok oe] 40)) from (Below.refl _ _).alloc (Nat.le_refl _) _)
      have HPB := ϕ (show BK (w10x.alloc (.cells #[.slice oA on oc, .slice oB om od, .slice oC ok oe] 40)) qb 40 #[.slice oA on oc, .slice oB om od, .slice oC ok oe] from Rg.Blk.newAt hqb.symm _ _)
      have HPQ := ϕ (show PQ (w10x.alloc (.cells #[.slice oA on oc, .slice oB om od, .slice oC ok oe] 40)) (.agg #[.slice oA on oc, .slice oB om od, .slice oC ok oe]) p from ⟨_, _, _, ⟨_, _, _, rfl, HPX.out.below HA9.out, (HPYE.out ▸ HY.out.below HA9.out), HONE.out.below HA9.out⟩, Rep.of p⟩)
      have HQR := ϕ (show qb ≠ rb from by have h := Rg.Blk.lt HRB.out; omega)
      have HRB := ϕ (HRB.out.below HA9.out)
      have HB := ϕ (HB.out.trans (HA9.out.mono HB.out.size))
      try rw [hqb]
      clear hqb HA9
      generalize (w10x.alloc (.cells #[.slice oA on oc, .slice oB om od, .slice oC ok oe] 40)) = Z at *
      refine RL.start (fun W => Sp.Upd Z W [rb]) (by kernel_rfl) (upd_weak [rb] (RL.Aft.drew (RL.Aft.refl Z))) ?_
      refine RL.tw 0 (v := .agg #[.slice oA on oc, .slice oB om od, .slice oC ok oe]) rfl (fun W hSW => RT.run_row 40 _ rfl _ rfl _ _ (Kx.upd_blk hSW HPB.out (by have := HQR.out; simp; omega)) Tryz.underlying40 rfl (by kernel_rfl)) ?_
      try go_frame
      refine RL.tw 1 (v := .agg #[.slice oA on oc, .slice oB om od, .slice oC ok oe]) rfl (fun W hSW => RT.run_row 40 _ rfl _ rfl _ _ (Kx.upd_blk hSW HPB.out (by have := HQR.out; simp; omega)) Tryz.underlying40 rfl (by kernel_rfl)) ?_
      try go_frame
      refine' RL.tc 2 (v := (.string S)) 23 #[.agg #[.slice oA on oc, .slice oB om od, .slice oC ok oe]] ?hk21 ?hc21 ?_
      case hk21 => (intro W; go_simp; try with_reducible rfl)
      case hc21 => (intro W hSW; exact (HBY.out W _ (HPQ.out.grown (Sp.Upd.grown1 hSW) HRB.out nil3)).mono (fun e w9 h9 => ⟨h9.1, h9.2, Sp.Upd.trans hSW (Sp.Upd.of_below h9.2) (by simp)⟩))
      try go_frame
      refine' RL.tv 3 ?hk22 ?_
      case hk22 => (intro W hSW; go_simp; try with_reducible rfl)
      try go_frame
      refine' RL.tv 4 ?hk23 ?_
      case hk23 => (intro W hSW; go_simp; try with_reducible rfl)
      try go_frame
      refine RL.sk 5 (fun wv hlwv hswv K hK => ?_)
      refine Kx.store_blk_op 40 _ _ rfl rb #[.slice oA on oc, .slice oB om od, .slice oC ok oe] #[.slice none 0 0, .slice none 0 0, .slice none 0 0] 40 rfl rfl (HRB.out.below (Below.trans (RL.Aft.drew (RL.Aft.refl Z)) (hlwv.mono (by simp)))) (by kernel_rfl) rfl (by simp [Value.oneCell']) ?_
      intro X9 hX hgX
      have hu : Sp.Upd Z X9 [rb] := Sp.Upd.trans hswv (Sp.Upd.of_grown1 hgX) (fun k hk => .inl hk)
      refine hK.out _ _ hu ?_
      clear hK
      try go_frame
      refine' RL.tv 6 ?hk24 ?_
      case hk24 => (intro W hSW; go_simp; try with_reducible rfl)
      try go_frame
      refine RL.done (by kernel_rfl) (fun Y9 hlY9 hsY9 => ?_)
      have HR9 := ϕ (show BK Y9 rb 40 #[.slice oA on oc, .slice oB om od, .slice oC ok oe] from BK.below hX hlY9)
      have HQ9 := ϕ ((HPQ.out.grown (Sp.Upd.grown1 hu) HRB.out nil3).below hlY9)
      have HU9 := ϕ (Sp.Upd.trans hu (upd_weak [rb] hlY9) (fun k hk => .inl hk))
      have HB9 := ϕ (Kx.below_upd HB.out HU9.out (by intro k hk; have := HRW.out; simp at hk; omega) HB.out.size)
      clear hX hgX hu hlY9 hsY9 hlwv hswv
      go_wp2_with fail
      refine bodyPost_ret (v := .tuple #[.agg #[.slice oA on oc, .slice oB om od, .slice oC ok oe], .bool true])
       (results_cell_slot Tryz.results16 _ _ rb 40 _ (0, 0) _ _ rfl rfl HR9.out Tryz.underlying40 rfl (by kernel_rfl)) rfl ?_
      refine ⟨⟨_, by rw [HDO.out]; rfl, ⟨_, _, _, _, _, _, _, _, _, rfl⟩, fun q hq => ?_⟩, HB9.out⟩
      rw [HDO.out] at hq
      exact Option.some.inj hq ▸ HQ9.out
    · have HDO := ϕ (show dec S.data.toList = none by rw [hdo, if_neg hf])
      obtain ⟨B, hB⟩ : ∃ B : ByteArray, (⟨(enc p).toArray⟩ : ByteArray) = B := ⟨_, rfl⟩
      have hne : B ≠ S := fun e => hf (by rw [← e, ← hB])
      have HEQ := ϕ (str_ne hne)
      rw [hB] at HBY
      clear hr hr2 hp hy hn hdo hf hgd hB hne
      have tk1 := True.intro
      go_upto_region 10 with (first
       | (have _t := tk1; go_at_call 39; refine (of_any Y S HSZ.out).mono ?_; rintro e w1x ⟨⟨vy, rfl, hv⟩, hb⟩; have HD := ϕ (HD.out.below hb); have HRB := ϕ (HRB.out.below hb); have HY := ϕ (show FR _ vy y from by rw [← HYD.out]; exact hv); have HB := tm HB hb; clear hb hv _t tk1; have tk2 := True.intro)
       | (have _t := tk2; go_at_call 40; refine (mul8_any w1x _ _ _ _ HY.out HY.out).mono ?_; rintro e w2x ⟨⟨yy, rfl, hv⟩, hb⟩; have HD := ϕ (HD.out.below hb); have HRB := ϕ (HRB.out.below hb); have HY := ϕ (HY.out.below hb); have HYY := ϕ hv; have HB := tm HB hb; clear hb hv _t tk2; have tk3 := True.intro)
       | (have _t := tk3; go_at_call 41; refine (Small_any w2x 1 (by omega)).mono ?_; rintro e w3x ⟨⟨one, rfl, hv⟩, hb⟩; have HD := ϕ (HD.out.below hb); have HRB := ϕ (HRB.out.below hb); have HY := ϕ (HY.out.below hb); have HYY := ϕ (HYY.out.below hb); have HONE := ϕ (show FR _ one 1 from hv); have HB := tm HB hb; clear hb hv _t tk3; have tk4 := True.intro)
       | (have _t := tk4; go_at_call 37; refine (sub_any w3x _ _ _ _ HYY.out HONE.out).mono ?_; rintro e w4x ⟨⟨a1, rfl, hv⟩, hb⟩; have HD := ϕ (HD.out.below hb); have HRB := ϕ (HRB.out.below hb); have HY := ϕ (HY.out.below hb); have HYY := ϕ (HYY.out.below hb); have HONE := ϕ (HONE.out.below hb); have HA1 := ϕ hv; have HB := tm HB hb; clear hb hv _t tk4; have tk5 := True.intro)
       | (have _t := tk5; go_at_call 40; refine (mul8_any w4x _ _ _ _ HD.out HYY.out).mono ?_; rintro e w5x ⟨⟨a2, rfl, hv⟩, hb⟩; have HRB := ϕ (HRB.out.below hb); have HY := ϕ (HY.out.below hb); have HONE := ϕ (HONE.out.below hb); have HA1 := ϕ (HA1.out.below hb); have HA2 := ϕ hv; have HB := tm HB hb; clear hb hv _t tk5; have tk6 := True.intro)
       | (have _t := tk6; go_at_call 44; refine (add_any w5x _ _ _ _ HA2.out HONE.out).mono ?_; rintro e w6x ⟨⟨a3, rfl, hv⟩, hb⟩; have HRB := ϕ (HRB.out.below hb); have HY := ϕ (HY.out.below hb); have HONE := ϕ (HONE.out.below hb); have HA1 := ϕ (HA1.out.below hb); have HA3 := ϕ hv; have HB := tm HB hb; clear hb hv _t tk6; have tk7 := True.intro)
       | (have _t := tk7; go_at_call 43; refine (invert_any w6x _ _ HA3.out).mono ?_; rintro e w7x ⟨⟨a4, rfl, hv⟩, hb⟩; have HRB := ϕ (HRB.out.below hb); have HY := ϕ (HY.out.below hb); have HONE := ϕ (HONE.out.below hb); have HA1 := ϕ (HA1.out.below hb); have HA4 := ϕ hv; have HB := tm HB hb; clear hb hv _t tk7; have tk8 := True.intro)
       | (have _t := tk8; go_at_call 40; refine (mul8_any w7x _ _ _ _ HA1.out HA4.out).mono ?_; rintro e w8x ⟨⟨a5, rfl, hv⟩, hb⟩; have HRB := ϕ (HRB.out.below hb); have HY := ϕ (HY.out.below hb); have HONE := ϕ (HONE.out.below hb); have HA5 := ϕ hv; have HB := tm HB hb; clear hb hv _t tk8; have tk9 := True.intro)
       | (have _t := tk9; go_at_call 42; refine (root_any w8x _ _ HA5.out).mono ?_; rw [HRT.out]; rintro e w9x ⟨⟨vx, rfl, hv⟩, hb⟩; have HRB := ϕ (HRB.out.below hb); have HY := ϕ (HY.out.below hb); have HONE := ϕ (HONE.out.below hb); have HVX := ϕ hv; have HB := tm HB hb; clear hb hv _t tk9; have tk10 := True.intro)
       | (have _t := tk10; go_at_call 37; refine (sub_any w9x _ _ _ _ (FR.nil _) HVX.out).mono ?_; rintro e w10x ⟨⟨nx, rfl, hv⟩, hb⟩; have HRB := ϕ (HRB.out.below hb); have HY := ϕ (HY.out.below hb); have HONE := ϕ (HONE.out.below hb); have HNX := ϕ hv; have HB := tm HB hb; clear hb hv _t tk10; have tk11 := True.intro; have HPX := ϕ (show FR _ nx p.x from HPXE.out ▸ HNX.out); obtain ⟨oA, on, oc, hox⟩ := HPX.out.form; subst hox; obtain ⟨oB, om, od, hoy⟩ := HY.out.form; subst hoy; obtain ⟨oC, ok, oe, hoz⟩ := HONE.out.form; subst hoz))
      obtain ⟨qb, hqb⟩ : ∃ n, w10x.heap.size = n := ⟨_, rfl⟩
      have HA9 := ϕ (show Below w10x.heap.size w10x (w10x.alloc (.cells #[.slice oA on oc, .slice oB om od, .slice oC ok oe] 40)) from (Below.refl _ _).alloc (Nat.le_refl _) _)
      have HPB := ϕ (show BK (w10x.alloc (.cells #[.slice oA on oc, .slice oB om od, .slice oC ok oe] 40)) qb 40 #[.slice oA on oc, .slice oB om od, .slice oC ok oe] from Rg.Blk.newAt hqb.symm _ _)
      have HPQ := ϕ (show PQ (w10x.alloc (.cells #[.slice oA on oc, .slice oB om od, .slice oC ok oe] 40)) (.agg #[.slice oA on oc, .slice oB om od, .slice oC ok oe]) p from ⟨_, _, _, ⟨_, _, _, rfl, HPX.out.below HA9.out, (HPYE.out ▸ HY.out.below HA9.out), HONE.out.below HA9.out⟩, Rep.of p⟩)
      have HQR := ϕ (show qb ≠ rb from by have h := Rg.Blk.lt HRB.out; omega)
      have HRB := ϕ (HRB.out.below HA9.out)
      have HB := ϕ (HB.out.trans (HA9.out.mono HB.out.size))
      try rw [hqb]
      clear hqb HA9
      generalize (w10x.alloc (.cells #[.slice oA on oc, .slice oB om od, .slice oC ok oe] 40)) = Z at *
      refine RL.start (fun W => Sp.Upd Z W [rb]) (by kernel_rfl) (upd_weak [rb] (RL.Aft.drew (RL.Aft.refl Z))) ?_
      refine RL.tw 0 (v := .agg #[.slice oA on oc, .slice oB om od, .slice oC ok oe]) rfl (fun W hSW => RT.run_row 40 _ rfl _ rfl _ _ (Kx.upd_blk hSW HPB.out (by have := HQR.out; simp; omega)) Tryz.underlying40 rfl (by kernel_rfl)) ?_
      try go_frame
      refine RL.tw 1 (v := .agg #[.slice oA on oc, .slice oB om od, .slice oC ok oe]) rfl (fun W hSW => RT.run_row 40 _ rfl _ rfl _ _ (Kx.upd_blk hSW HPB.out (by have := HQR.out; simp; omega)) Tryz.underlying40 rfl (by kernel_rfl)) ?_
      try go_frame
      refine' RL.tc 2 (v := (.string B)) 23 #[.agg #[.slice oA on oc, .slice oB om od, .slice oC ok oe]] ?hk25 ?hc25 ?_
      case hk25 => (intro W; go_simp; try with_reducible rfl)
      case hc25 => (intro W hSW; exact (HBY.out W _ (HPQ.out.grown (Sp.Upd.grown1 hSW) HRB.out nil3)).mono (fun e w9 h9 => ⟨h9.1, h9.2, Sp.Upd.trans hSW (Sp.Upd.of_below h9.2) (by simp)⟩))
      try go_frame
      refine' RL.tv 3 ?hk26 ?_
      case hk26 => (intro W hSW; go_simp; try with_reducible rfl)
      try go_frame
      refine' RL.tv 4 ?hk27 ?_
      case hk27 => (intro W hSW; have x1 := HEQ.out; go_simp; try with_reducible rfl)
      try go_frame
      refine RL.sk 5 (fun wv hlwv hswv K hK => ?_)
      refine Kx.store_blk_op 40 _ _ rfl rb #[.slice oA on oc, .slice oB om od, .slice oC ok oe] #[.slice none 0 0, .slice none 0 0, .slice none 0 0] 40 rfl rfl (HRB.out.below (Below.trans (RL.Aft.drew (RL.Aft.refl Z)) (hlwv.mono (by simp)))) (by kernel_rfl) rfl (by simp [Value.oneCell']) ?_
      intro X9 hX hgX
      have hu : Sp.Upd Z X9 [rb] := Sp.Upd.trans hswv (Sp.Upd.of_grown1 hgX) (fun k hk => .inl hk)
      refine hK.out _ _ hu ?_
      clear hK
      try go_frame
      refine' RL.tv 6 ?hk28 ?_
      case hk28 => (intro W hSW; go_simp; try with_reducible rfl)
      try go_frame
      refine RL.done (by kernel_rfl) (fun Y9 hlY9 hsY9 => ?_)
      have HR9 := ϕ (show BK Y9 rb 40 #[.slice oA on oc, .slice oB om od, .slice oC ok oe] from BK.below hX hlY9)
      have HU9 := ϕ (Sp.Upd.trans hu (upd_weak [rb] hlY9) (fun k hk => .inl hk))
      have HB9 := ϕ (Kx.below_upd HB.out HU9.out (by intro k hk; have := HRW.out; simp at hk; omega) HB.out.size)
      clear hX hgX hu hlY9 hsY9 hlwv hswv
      go_wp2_with fail
      refine bodyPost_ret (v := .tuple #[.agg #[.slice oA on oc, .slice oB om od, .slice oC ok oe], .bool false])
       (results_cell_slot Tryz.results16 _ _ rb 40 _ (0, 0) _ _ rfl rfl HR9.out Tryz.underlying40 rfl (by kernel_rfl)) rfl ?_
      refine ⟨⟨_, by rw [HDO.out]; rfl, ⟨_, _, _, _, _, _, _, _, _, rfl⟩, fun q hq => ?_⟩, HB9.out⟩
      rw [HDO.out] at hq
      exact none_no hq
  · skip
    have HPXE := ϕ (show p.x = r by rw [hp]; show sgn _ _ = _; unfold sgn; rw [hgd, if_neg hn])
    have hnd : decide ((128 : Int) ≤ (c31.toNat : Int)) = false := by rw [decide_eq_false_iff_not]; omega
    have hni : ¬ (128 : Int) ≤ (c31.toNat : Int) := by omega
    by_cases hf : enc p = S.data.toList
    · have HEQ := ϕ (str_eq hf)
      have HDO := ϕ (show dec S.data.toList = some p by rw [hdo, if_pos hf])
      have HBY := ϕ (show ∀ W v, PQ W v p → Calls Tryz.prog 23 #[v] W fun e w' => e = .returned (.string S) ∧ Below W.heap.size W w' from fun W v h => by
       have h2 := HBY.out W v h
       rwa [HEQ.out] at h2)
      clear hr hr2 hp hy hn hdo hf hgd
      have tk1 := True.intro
      go_upto_region 10 with (first
       | (have _t := tk1; go_at_call 39; refine (of_any Y S HSZ.out).mono ?_; rintro e w1x ⟨⟨vy, rfl, hv⟩, hb⟩; have HD := ϕ (HD.out.below hb); have HRB := ϕ (HRB.out.below hb); have HY := ϕ (show FR _ vy y from by rw [← HYD.out]; exact hv); have HB := tm HB hb; clear hb hv _t tk1; have tk2 := True.intro)
       | (have _t := tk2; go_at_call 40; refine (mul8_any w1x _ _ _ _ HY.out HY.out).mono ?_; rintro e w2x ⟨⟨yy, rfl, hv⟩, hb⟩; have HD := ϕ (HD.out.below hb); have HRB := ϕ (HRB.out.below hb); have HY := ϕ (HY.out.below hb); have HYY := ϕ hv; have HB := tm HB hb; clear hb hv _t tk2; have tk3 := True.intro)
       | (have _t := tk3; go_at_call 41; refine (Small_any w2x 1 (by omega)).mono ?_; rintro e w3x ⟨⟨one, rfl, hv⟩, hb⟩; have HD := ϕ (HD.out.below hb); have HRB := ϕ (HRB.out.below hb); have HY := ϕ (HY.out.below hb); have HYY := ϕ (HYY.out.below hb); have HONE := ϕ (show FR _ one 1 from hv); have HB := tm HB hb; clear hb hv _t tk3; have tk4 := True.intro)
       | (have _t := tk4; go_at_call 37; refine (sub_any w3x _ _ _ _ HYY.out HONE.out).mono ?_; rintro e w4x ⟨⟨a1, rfl, hv⟩, hb⟩; have HD := ϕ (HD.out.below hb); have HRB := ϕ (HRB.out.below hb); have HY := ϕ (HY.out.below hb); have HYY := ϕ (HYY.out.below hb); have HONE := ϕ (HONE.out.below hb); have HA1 := ϕ hv; have HB := tm HB hb; clear hb hv _t tk4; have tk5 := True.intro)
       | (have _t := tk5; go_at_call 40; refine (mul8_any w4x _ _ _ _ HD.out HYY.out).mono ?_; rintro e w5x ⟨⟨a2, rfl, hv⟩, hb⟩; have HRB := ϕ (HRB.out.below hb); have HY := ϕ (HY.out.below hb); have HONE := ϕ (HONE.out.below hb); have HA1 := ϕ (HA1.out.below hb); have HA2 := ϕ hv; have HB := tm HB hb; clear hb hv _t tk5; have tk6 := True.intro)
       | (have _t := tk6; go_at_call 44; refine (add_any w5x _ _ _ _ HA2.out HONE.out).mono ?_; rintro e w6x ⟨⟨a3, rfl, hv⟩, hb⟩; have HRB := ϕ (HRB.out.below hb); have HY := ϕ (HY.out.below hb); have HONE := ϕ (HONE.out.below hb); have HA1 := ϕ (HA1.out.below hb); have HA3 := ϕ hv; have HB := tm HB hb; clear hb hv _t tk6; have tk7 := True.intro)
       | (have _t := tk7; go_at_call 43; refine (invert_any w6x _ _ HA3.out).mono ?_; rintro e w7x ⟨⟨a4, rfl, hv⟩, hb⟩; have HRB := ϕ (HRB.out.below hb); have HY := ϕ (HY.out.below hb); have HONE := ϕ (HONE.out.below hb); have HA1 := ϕ (HA1.out.below hb); have HA4 := ϕ hv; have HB := tm HB hb; clear hb hv _t tk7; have tk8 := True.intro)
       | (have _t := tk8; go_at_call 40; refine (mul8_any w7x _ _ _ _ HA1.out HA4.out).mono ?_; rintro e w8x ⟨⟨a5, rfl, hv⟩, hb⟩; have HRB := ϕ (HRB.out.below hb); have HY := ϕ (HY.out.below hb); have HONE := ϕ (HONE.out.below hb); have HA5 := ϕ hv; have HB := tm HB hb; clear hb hv _t tk8; have tk9 := True.intro)
       | (have _t := tk9; go_at_call 42; refine (root_any w8x _ _ HA5.out).mono ?_; rw [HRT.out]; rintro e w9x ⟨⟨vx, rfl, hv⟩, hb⟩; have HRB := ϕ (HRB.out.below hb); have HY := ϕ (HY.out.below hb); have HONE := ϕ (HONE.out.below hb); have HVX := ϕ hv; have HB := tm HB hb; clear hb hv _t tk9; have tk10 := True.intro; have HPX := ϕ (show FR _ vx p.x from HPXE.out ▸ HVX.out); obtain ⟨oA, on, oc, hox⟩ := HPX.out.form; subst hox; obtain ⟨oB, om, od, hoy⟩ := HY.out.form; subst hoy; obtain ⟨oC, ok, oe, hoz⟩ := HONE.out.form; subst hoz))
      obtain ⟨qb, hqb⟩ : ∃ n, w9x.heap.size = n := ⟨_, rfl⟩
      have HA9 := ϕ (show Below w9x.heap.size w9x (w9x.alloc (.cells #[.slice oA on oc, .slice oB om od, .slice oC ok oe] 40)) from (Below.refl _ _).alloc (Nat.le_refl _) _)
      have HPB := ϕ (show BK (w9x.alloc (.cells #[.slice oA on oc, .slice oB om od, .slice oC ok oe] 40)) qb 40 #[.slice oA on oc, .slice oB om od, .slice oC ok oe] from Rg.Blk.newAt hqb.symm _ _)
      have HPQ := ϕ (show PQ (w9x.alloc (.cells #[.slice oA on oc, .slice oB om od, .slice oC ok oe] 40)) (.agg #[.slice oA on oc, .slice oB om od, .slice oC ok oe]) p from ⟨_, _, _, ⟨_, _, _, rfl, HPX.out.below HA9.out, (HPYE.out ▸ HY.out.below HA9.out), HONE.out.below HA9.out⟩, Rep.of p⟩)
      have HQR := ϕ (show qb ≠ rb from by have h := Rg.Blk.lt HRB.out; omega)
      have HRB := ϕ (HRB.out.below HA9.out)
      have HB := ϕ (HB.out.trans (HA9.out.mono HB.out.size))
      try rw [hqb]
      clear hqb HA9
      generalize (w9x.alloc (.cells #[.slice oA on oc, .slice oB om od, .slice oC ok oe] 40)) = Z at *
      refine RL.start (fun W => Sp.Upd Z W [rb]) (by kernel_rfl) (upd_weak [rb] (RL.Aft.drew (RL.Aft.refl Z))) ?_
      refine RL.tw 0 (v := .agg #[.slice oA on oc, .slice oB om od, .slice oC ok oe]) rfl (fun W hSW => RT.run_row 40 _ rfl _ rfl _ _ (Kx.upd_blk hSW HPB.out (by have := HQR.out; simp; omega)) Tryz.underlying40 rfl (by kernel_rfl)) ?_
      try go_frame
      refine RL.tw 1 (v := .agg #[.slice oA on oc, .slice oB om od, .slice oC ok oe]) rfl (fun W hSW => RT.run_row 40 _ rfl _ rfl _ _ (Kx.upd_blk hSW HPB.out (by have := HQR.out; simp; omega)) Tryz.underlying40 rfl (by kernel_rfl)) ?_
      try go_frame
      refine' RL.tc 2 (v := (.string S)) 23 #[.agg #[.slice oA on oc, .slice oB om od, .slice oC ok oe]] ?hk29 ?hc29 ?_
      case hk29 => (intro W; go_simp; try with_reducible rfl)
      case hc29 => (intro W hSW; exact (HBY.out W _ (HPQ.out.grown (Sp.Upd.grown1 hSW) HRB.out nil3)).mono (fun e w9 h9 => ⟨h9.1, h9.2, Sp.Upd.trans hSW (Sp.Upd.of_below h9.2) (by simp)⟩))
      try go_frame
      refine' RL.tv 3 ?hk30 ?_
      case hk30 => (intro W hSW; go_simp; try with_reducible rfl)
      try go_frame
      refine' RL.tv 4 ?hk31 ?_
      case hk31 => (intro W hSW; go_simp; try with_reducible rfl)
      try go_frame
      refine RL.sk 5 (fun wv hlwv hswv K hK => ?_)
      refine Kx.store_blk_op 40 _ _ rfl rb #[.slice oA on oc, .slice oB om od, .slice oC ok oe] #[.slice none 0 0, .slice none 0 0, .slice none 0 0] 40 rfl rfl (HRB.out.below (Below.trans (RL.Aft.drew (RL.Aft.refl Z)) (hlwv.mono (by simp)))) (by kernel_rfl) rfl (by simp [Value.oneCell']) ?_
      intro X9 hX hgX
      have hu : Sp.Upd Z X9 [rb] := Sp.Upd.trans hswv (Sp.Upd.of_grown1 hgX) (fun k hk => .inl hk)
      refine hK.out _ _ hu ?_
      clear hK
      try go_frame
      refine' RL.tv 6 ?hk32 ?_
      case hk32 => (intro W hSW; go_simp; try with_reducible rfl)
      try go_frame
      refine RL.done (by kernel_rfl) (fun Y9 hlY9 hsY9 => ?_)
      have HR9 := ϕ (show BK Y9 rb 40 #[.slice oA on oc, .slice oB om od, .slice oC ok oe] from BK.below hX hlY9)
      have HQ9 := ϕ ((HPQ.out.grown (Sp.Upd.grown1 hu) HRB.out nil3).below hlY9)
      have HU9 := ϕ (Sp.Upd.trans hu (upd_weak [rb] hlY9) (fun k hk => .inl hk))
      have HB9 := ϕ (Kx.below_upd HB.out HU9.out (by intro k hk; have := HRW.out; simp at hk; omega) HB.out.size)
      clear hX hgX hu hlY9 hsY9 hlwv hswv
      go_wp2_with fail
      refine bodyPost_ret (v := .tuple #[.agg #[.slice oA on oc, .slice oB om od, .slice oC ok oe], .bool true])
       (results_cell_slot Tryz.results16 _ _ rb 40 _ (0, 0) _ _ rfl rfl HR9.out Tryz.underlying40 rfl (by kernel_rfl)) rfl ?_
      refine ⟨⟨_, by rw [HDO.out]; rfl, ⟨_, _, _, _, _, _, _, _, _, rfl⟩, fun q hq => ?_⟩, HB9.out⟩
      rw [HDO.out] at hq
      exact Option.some.inj hq ▸ HQ9.out
    · have HDO := ϕ (show dec S.data.toList = none by rw [hdo, if_neg hf])
      obtain ⟨B, hB⟩ : ∃ B : ByteArray, (⟨(enc p).toArray⟩ : ByteArray) = B := ⟨_, rfl⟩
      have hne : B ≠ S := fun e => hf (by rw [← e, ← hB])
      have HEQ := ϕ (str_ne hne)
      rw [hB] at HBY
      clear hr hr2 hp hy hn hdo hf hgd hB hne
      have tk1 := True.intro
      go_upto_region 10 with (first
       | (have _t := tk1; go_at_call 39; refine (of_any Y S HSZ.out).mono ?_; rintro e w1x ⟨⟨vy, rfl, hv⟩, hb⟩; have HD := ϕ (HD.out.below hb); have HRB := ϕ (HRB.out.below hb); have HY := ϕ (show FR _ vy y from by rw [← HYD.out]; exact hv); have HB := tm HB hb; clear hb hv _t tk1; have tk2 := True.intro)
       | (have _t := tk2; go_at_call 40; refine (mul8_any w1x _ _ _ _ HY.out HY.out).mono ?_; rintro e w2x ⟨⟨yy, rfl, hv⟩, hb⟩; have HD := ϕ (HD.out.below hb); have HRB := ϕ (HRB.out.below hb); have HY := ϕ (HY.out.below hb); have HYY := ϕ hv; have HB := tm HB hb; clear hb hv _t tk2; have tk3 := True.intro)
       | (have _t := tk3; go_at_call 41; refine (Small_any w2x 1 (by omega)).mono ?_; rintro e w3x ⟨⟨one, rfl, hv⟩, hb⟩; have HD := ϕ (HD.out.below hb); have HRB := ϕ (HRB.out.below hb); have HY := ϕ (HY.out.below hb); have HYY := ϕ (HYY.out.below hb); have HONE := ϕ (show FR _ one 1 from hv); have HB := tm HB hb; clear hb hv _t tk3; have tk4 := True.intro)
       | (have _t := tk4; go_at_call 37; refine (sub_any w3x _ _ _ _ HYY.out HONE.out).mono ?_; rintro e w4x ⟨⟨a1, rfl, hv⟩, hb⟩; have HD := ϕ (HD.out.below hb); have HRB := ϕ (HRB.out.below hb); have HY := ϕ (HY.out.below hb); have HYY := ϕ (HYY.out.below hb); have HONE := ϕ (HONE.out.below hb); have HA1 := ϕ hv; have HB := tm HB hb; clear hb hv _t tk4; have tk5 := True.intro)
       | (have _t := tk5; go_at_call 40; refine (mul8_any w4x _ _ _ _ HD.out HYY.out).mono ?_; rintro e w5x ⟨⟨a2, rfl, hv⟩, hb⟩; have HRB := ϕ (HRB.out.below hb); have HY := ϕ (HY.out.below hb); have HONE := ϕ (HONE.out.below hb); have HA1 := ϕ (HA1.out.below hb); have HA2 := ϕ hv; have HB := tm HB hb; clear hb hv _t tk5; have tk6 := True.intro)
       | (have _t := tk6; go_at_call 44; refine (add_any w5x _ _ _ _ HA2.out HONE.out).mono ?_; rintro e w6x ⟨⟨a3, rfl, hv⟩, hb⟩; have HRB := ϕ (HRB.out.below hb); have HY := ϕ (HY.out.below hb); have HONE := ϕ (HONE.out.below hb); have HA1 := ϕ (HA1.out.below hb); have HA3 := ϕ hv; have HB := tm HB hb; clear hb hv _t tk6; have tk7 := True.intro)
       | (have _t := tk7; go_at_call 43; refine (invert_any w6x _ _ HA3.out).mono ?_; rintro e w7x ⟨⟨a4, rfl, hv⟩, hb⟩; have HRB := ϕ (HRB.out.below hb); have HY := ϕ (HY.out.below hb); have HONE := ϕ (HONE.out.below hb); have HA1 := ϕ (HA1.out.below hb); have HA4 := ϕ hv; have HB := tm HB hb; clear hb hv _t tk7; have tk8 := True.intro)
       | (have _t := tk8; go_at_call 40; refine (mul8_any w7x _ _ _ _ HA1.out HA4.out).mono ?_; rintro e w8x ⟨⟨a5, rfl, hv⟩, hb⟩; have HRB := ϕ (HRB.out.below hb); have HY := ϕ (HY.out.below hb); have HONE := ϕ (HONE.out.below hb); have HA5 := ϕ hv; have HB := tm HB hb; clear hb hv _t tk8; have tk9 := True.intro)
       | (have _t := tk9; go_at_call 42; refine (root_any w8x _ _ HA5.out).mono ?_; rw [HRT.out]; rintro e w9x ⟨⟨vx, rfl, hv⟩, hb⟩; have HRB := ϕ (HRB.out.below hb); have HY := ϕ (HY.out.below hb); have HONE := ϕ (HONE.out.below hb); have HVX := ϕ hv; have HB := tm HB hb; clear hb hv _t tk9; have tk10 := True.intro; have HPX := ϕ (show FR _ vx p.x from HPXE.out ▸ HVX.out); obtain ⟨oA, on, oc, hox⟩ := HPX.out.form; subst hox; obtain ⟨oB, om, od, hoy⟩ := HY.out.form; subst hoy; obtain ⟨oC, ok, oe, hoz⟩ := HONE.out.form; subst hoz))
      obtain ⟨qb, hqb⟩ : ∃ n, w9x.heap.size = n := ⟨_, rfl⟩
      have HA9 := ϕ (show Below w9x.heap.size w9x (w9x.alloc (.cells #[.slice oA on oc, .slice oB om od, .slice oC ok oe] 40)) from (Below.refl _ _).alloc (Nat.le_refl _) _)
      have HPB := ϕ (show BK (w9x.alloc (.cells #[.slice oA on oc, .slice oB om od, .slice oC ok oe] 40)) qb 40 #[.slice oA on oc, .slice oB om od, .slice oC ok oe] from Rg.Blk.newAt hqb.symm _ _)
      have HPQ := ϕ (show PQ (w9x.alloc (.cells #[.slice oA on oc, .slice oB om od, .slice oC ok oe] 40)) (.agg #[.slice oA on oc, .slice oB om od, .slice oC ok oe]) p from ⟨_, _, _, ⟨_, _, _, rfl, HPX.out.below HA9.out, (HPYE.out ▸ HY.out.below HA9.out), HONE.out.below HA9.out⟩, Rep.of p⟩)
      have HQR := ϕ (show qb ≠ rb from by have h := Rg.Blk.lt HRB.out; omega)
      have HRB := ϕ (HRB.out.below HA9.out)
      have HB := ϕ (HB.out.trans (HA9.out.mono HB.out.size))
      try rw [hqb]
      clear hqb HA9
      generalize (w9x.alloc (.cells #[.slice oA on oc, .slice oB om od, .slice oC ok oe] 40)) = Z at *
      refine RL.start (fun W => Sp.Upd Z W [rb]) (by kernel_rfl) (upd_weak [rb] (RL.Aft.drew (RL.Aft.refl Z))) ?_
      refine RL.tw 0 (v := .agg #[.slice oA on oc, .slice oB om od, .slice oC ok oe]) rfl (fun W hSW => RT.run_row 40 _ rfl _ rfl _ _ (Kx.upd_blk hSW HPB.out (by have := HQR.out; simp; omega)) Tryz.underlying40 rfl (by kernel_rfl)) ?_
      try go_frame
      refine RL.tw 1 (v := .agg #[.slice oA on oc, .slice oB om od, .slice oC ok oe]) rfl (fun W hSW => RT.run_row 40 _ rfl _ rfl _ _ (Kx.upd_blk hSW HPB.out (by have := HQR.out; simp; omega)) Tryz.underlying40 rfl (by kernel_rfl)) ?_
      try go_frame
      refine' RL.tc 2 (v := (.string B)) 23 #[.agg #[.slice oA on oc, .slice oB om od, .slice oC ok oe]] ?hk33 ?hc33 ?_
      case hk33 => (intro W; go_simp; try with_reducible rfl)
      case hc33 => (intro W hSW; exact (HBY.out W _ (HPQ.out.grown (Sp.Upd.grown1 hSW) HRB.out nil3)).mono (fun e w9 h9 => ⟨h9.1, h9.2, Sp.Upd.trans hSW (Sp.Upd.of_below h9.2) (by simp)⟩))
      try go_frame
      refine' RL.tv 3 ?hk34 ?_
      case hk34 => (intro W hSW; go_simp; try with_reducible rfl)
      try go_frame
      refine' RL.tv 4 ?hk35 ?_
      case hk35 => (intro W hSW; have x1 := HEQ.out; go_simp; try with_reducible rfl)
      try go_frame
      refine RL.sk 5 (fun wv hlwv hswv K hK => ?_)
      refine Kx.store_blk_op 40 _ _ rfl rb #[.slice oA on oc, .slice oB om od, .slice oC ok oe] #[.slice none 0 0, .slice none 0 0, .slice none 0 0] 40 rfl rfl (HRB.out.below (Below.trans (RL.Aft.drew (RL.Aft.refl Z)) (hlwv.mono (by simp)))) (by kernel_rfl) rfl (by simp [Value.oneCell']) ?_
      intro X9 hX hgX
      have hu : Sp.Upd Z X9 [rb] := Sp.Upd.trans hswv (Sp.Upd.of_grown1 hgX) (fun k hk => .inl hk)
      refine hK.out _ _ hu ?_
      clear hK
      try go_frame
      refine' RL.tv 6 ?hk36 ?_
      case hk36 => (intro W hSW; go_simp; try with_reducible rfl)
      try go_frame
      refine RL.done (by kernel_rfl) (fun Y9 hlY9 hsY9 => ?_)
      have HR9 := ϕ (show BK Y9 rb 40 #[.slice oA on oc, .slice oB om od, .slice oC ok oe] from BK.below hX hlY9)
      have HU9 := ϕ (Sp.Upd.trans hu (upd_weak [rb] hlY9) (fun k hk => .inl hk))
      have HB9 := ϕ (Kx.below_upd HB.out HU9.out (by intro k hk; have := HRW.out; simp at hk; omega) HB.out.size)
      clear hX hgX hu hlY9 hsY9 hlwv hswv
      go_wp2_with fail
      refine bodyPost_ret (v := .tuple #[.agg #[.slice oA on oc, .slice oB om od, .slice oC ok oe], .bool false])
       (results_cell_slot Tryz.results16 _ _ rb 40 _ (0, 0) _ _ rfl rfl HR9.out Tryz.underlying40 rfl (by kernel_rfl)) rfl ?_
      refine ⟨⟨_, by rw [HDO.out]; rfl, ⟨_, _, _, _, _, _, _, _, _, rfl⟩, fun q hq => ?_⟩, HB9.out⟩
      rw [HDO.out] at hq
      exact none_no hq
end Go.Proofs.YtfpcelmekfdafaaGreatDoor.Rf
namespace Go.Proofs.YtfpcelmekfdafaaGreatDoor.Sha
open Go.RowKit Go.Proofs.YtfpcelmekfdafaaGreatDoor.Cl
theorem wrap_u64_add (a b : Nat) : IntKind.u64.wrap ((a : Int) + (b : Int)) = (((a + b) % 18446744073709551616 : Nat) : Int) := by
 rw [IntKind.wrap_u64]; omega
attribute [local go_sem] wrap_u64_add
theorem sched_word (W : Nat) (blk : List UInt8) (k : Nat) (h : k < 80) (h16 : k < 16) : (pad80 (sched W blk k)).set k (part W blk k (W / 8)) = pad80 (sched W blk (k + 1)) := by
 have hl := sched_length W blk k
 have e : sched W blk (k + 1) = sched W blk k ++ [part W blk k (W / 8)] := by simp [sched, h16, part]
 have := pad80_set (sched W blk k) (part W blk k (W / 8)) (by omega)
 rw [e, ← this, hl]
theorem sched_part0 (W : Nat) (blk : List UInt8) (k : Nat) (h : k < 80) : (pad80 (sched W blk k)).set k (part W blk k 0) = pad80 (sched W blk k) := by
 have hl := sched_length W blk k
 have h0 := pad80_at (sched W blk k) (by omega)
 have h8 := pad80_length (sched W blk k) (by omega)
 rw [hl] at h0
 have e : part W blk k 0 = (pad80 (sched W blk k))[k]'(by omega) := by
  rw [nth_getD, List.getD_eq_getElem?_getD, List.getElem?_eq_getElem (by omega)] at h0
  simpa [part, beN] using h0.symm
 rw [e, List.set_getElem_self]
theorem sched_next (W : Nat) (blk : List UInt8) (k : Nat) (h : k < 80) (h16 : ¬ k < 16) (v : Nat)
 (hv : v = (sg1 W (nth (sched W blk k) (k - 2)) + nth (sched W blk k) (k - 7) + sg0 W (nth (sched W blk k) (k - 15)) + nth (sched W blk k) (k - 16)) % 2 ^ W) :
 (pad80 (sched W blk k)).set k v = pad80 (sched W blk (k + 1)) := by
 have hl := sched_length W blk k
 have e : sched W blk (k + 1) = sched W blk k ++ [v] := by simp [sched, h16, hv]
 have := pad80_set (sched W blk k) v (by omega)
 rw [e, ← this, hl]
theorem pad_get (W : Nat) (blk : List UInt8) (k i : Nat) (hi : i < k) : nth (pad80 (sched W blk k)) i = nth (sched W blk k) i :=
 pad80_getD _ _ (by rw [sched_length]; exact hi)
theorem set_getD (l : List Nat) (k v : Nat) (h : k < l.length) : nth (l.set k v) k = v := by
 simp [nth, List.getD_eq_getElem?_getD, h]
theorem shl_or (W : Nat) (blk : List UInt8) (k j : Nat) (b : UInt8) (hj : j < 8) (hb : k * (W / 8) + j < blk.length) (hb' : blk[k * (W / 8) + j] = b) :
 bits .or .u64 (IntKind.u64.wrap ((part W blk k j : Int) * 256)) (IntKind.u64.wrap (b.toNat : Int)) = ((part W blk k (j + 1) : Nat) : Int) := by
 have hp := part_lt W blk k j
 have hm : 256 ^ j ≤ 256 ^ 7 := Nat.pow_le_pow_right (by decide) (by omega)
 have h7 : (256 : Nat) ^ 7 = 72057594037927936 := by decide
 have e : IntKind.u64.wrap ((part W blk k j : Int) * 256) = ((part W blk k j * 256 : Nat) : Int) := by rw [IntKind.wrap_u64]; omega
 have e2 : IntKind.u64.wrap (b.toNat : Int) = (b.toNat : Int) := by rw [IntKind.wrap_u64]; have := b.toNat_lt; omega
 rw [e, e2, u64_or_nat _ _ (by omega) (by have := b.toNat_lt; omega), or_byte, part_succ W blk k j hb, hb']
theorem sched512 (w : World) (s : ByteArray) (hs : s.size = 128) : Calls Tryz.prog 114 #[K512, .string s] w fun e w' => e = .returned (.agg (Cl.u64s (msg 64 s.data.toList))) ∧ Below w.heap.size w w' := by
 rw [msg64]
 have hlen : s.data.toList.length = 128 := by simpa using hs
 unfold K512
 have k0 : k512c[0]? = some (.int .i64 64) := rfl
 have k1 : k512c[1]? = some (.int .i64 80) := rfl
 go_enter Tryz.func114, Tryz.ntmps114
 go_wp2_with fail
 clear k0 k1
 generalize hW : World.alloc (World.alloc (World.alloc w _) _) _ = W
 have hn : W.heap.size = w.heap.size + 1 + 1 + 1 := by subst hW; simp
 have hBW := ϕ (show Below w.heap.size w W by subst hW; exact (((Below.refl _ _).alloc (Nat.le_refl _) _).alloc (by simp) _).alloc (by simp; omega) _)
 have HK := ϕ (show Rg.Blk W w.heap.size 113 k512c by subst hW; exact ((Rg.Blk.new _ _ _).alloc _).alloc _)
 have HT := ϕ (show Rg.Blk W (w.heap.size + 1) 147 Tryz.zeroCells147 by subst hW; refine Rg.Blk.alloc (Rg.Blk.newAt ?_ _ _) _; simp)
 have HR0 := ϕ (show Cl.Row W (w.heap.size + 1 + 1) 147 (pad80 (sched 64 s.data.toList 0)) by subst hW; refine Rg.Blk.newAt ?_ _ _; simp)
 have HN := ϕ hn
 clear hW hn
 go_loopw [14] (fun i wr => ∃ k : Nat, k ≤ 80 ∧ i = .int .i64 k ∧ Cl.Row wr (w.heap.size + 1 + 1) 147 (pad80 (sched 64 s.data.toList k)) ∧ Below (w.heap.size + 1 + 1) W wr) (fun i _ => 80 - (intOf i).toNat)
 case atStart => exact ⟨0, by decide, rfl, HR0.out, Below.refl _ _⟩
 case round =>
  obtain ⟨k, hk, rfl, hR, hb⟩ := hrel
  have HR := ϕ hR
  have HB := ϕ hb
  have HK' := ϕ (HK.out.below hb (by omega))
  clear hR HR0 hb
  by_cases hlt : k < 80
  · have h80 := ϕ (pad80_length (sched 64 s.data.toList k) (by rw [sched_length]; omega))
    by_cases h16 : k < 16
    · go_wp2_with fail
      obtain ⟨wo, rfl⟩ : ∃ wo : World, wo = wr := ⟨_, rfl⟩
      go_loopw [20] (fun i wr => ∃ j : Nat, j ≤ 8 ∧ i = .int .i64 j ∧ Cl.Row wr (w.heap.size + 1 + 1) 147 ((pad80 (sched 64 s.data.toList k)).set k (part 64 s.data.toList k j)) ∧ Below (w.heap.size + 1 + 1) W wr) (fun i _ => 8 - (intOf i).toNat)
      case atStart => exact ⟨0, by decide, rfl, by rw [sched_part0 _ _ _ (by omega)]; exact HR.out, HB.out⟩
      case round =>
       obtain ⟨j, hj, rfl, hR2, hb2⟩ := hrel
       have HR2 := ϕ hR2
       have HB2 := ϕ hb2
       clear hR2 hb2
       by_cases hjn : j < 8
       · go_wp2_with fail
         have hc := fun (t : Rg.Later wr.heap.size wr) => (t.cell (w.heap.size + 1 + 1) k HR2.out.lt).trans (HR2.out.cell k (by rw [List.length_set, h80.out]; omega))
         rw [set_getD _ _ _ (by rw [h80.out]; omega)] at hc
         have hf := fun t : Rg.Later wr.heap.size wr => (t.frozen (w.heap.size + 1 + 1) k HR2.out.lt).trans (HR2.out.frozen k)
         have hi0 : 0 ≤ (k : Int) * 8 + j := by omega
         have hi1 : (k : Int) * 8 + j < 128 := by omega
         refine Rg.wp_region_later wr.heap.size 15 (by kernel_rfl) (by kernel_rfl) ?_
         simp only [List.take_succ_cons, List.take_zero, List.drop_succ_cons, List.drop_zero]
         repeat (go_big_quiet_step (fail))
         refine wpQuiet_nil ?_
         rintro _ ⟨t, rfl⟩
         go_wp2
         go_roundw
         case rel =>
          refine ⟨j + 1, by omega, by go_num, ?_, (HB2.out.trans (t.is.mono (by have := HR2.out.lt; omega))).setCell (Nat.le_refl _) _⟩
          have hb : k * (64 / 8) + j < s.data.toList.length := by rw [hlen]; omega
          have hv := shl_or 64 s.data.toList k j s[k * 8 + j] (by omega) hb rfl
          rw [hv]
          have := (HR2.out.below t.is HR2.out.lt).store k (part 64 s.data.toList k (j + 1))
          rwa [List.set_set] at this
         case measure => simp [intOf]; omega
       · obtain rfl : j = 8 := by omega
         go_wp2_with fail
         go_roundw
         case rel => exact ⟨k + 1, by omega, by go_num, by rw [← sched_word _ _ _ (by omega) h16]; exact HR2.out, HB2.out⟩
         case measure => simp [intOf]; omega
    · have hsl := sched_lt 64 (by decide) s.data.toList k
      have hg := fun i => getD_lt hsl (Nat.two_pow_pos 64) i
      have Hg := ϕ (show ∀ i, nth (sched 64 s.data.toList k) i < 18446744073709551616 from hg)
      clear hsl hg
      go_wp2_with fail
      have hlw : w.heap.size + 1 + 1 < wr.heap.size := HR.out.lt
      have HL : Hid (w.heap.size < wr.heap.size) := ϕ (by omega)
      have c2 := HK'.out.cellL HL.out 2 (v := .int .i64 1) rfl
      have c3 := HK'.out.cellL HL.out 3 (v := .int .i64 8) rfl
      have c4 := HK'.out.cellL HL.out 4 (v := .int .i64 7) rfl
      have c5 := HK'.out.cellL HL.out 5 (v := .int .i64 19) rfl
      have c6 := HK'.out.cellL HL.out 6 (v := .int .i64 61) rfl
      have c7 := HK'.out.cellL HL.out 7 (v := .int .i64 6) rfl
      have hF : ∀ i, i < k → ∀ t : Rg.Later wr.heap.size wr, t.val.cell? ⟨w.heap.size + 1 + 1, i, none⟩ = some (.int .u64 (nth (sched 64 s.data.toList k) i : Nat)) := fun i hi t => by
       rw [← pad_get _ _ _ _ hi]
       exact (t.cell (w.heap.size + 1 + 1) i HR.out.lt).trans (HR.out.cell i (by rw [h80.out]; omega))
      have f2 := hF (k - 2) (by omega)
      have f7 := hF (k - 7) (by omega)
      have f15 := hF (k - 15) (by omega)
      have f16 := hF (k - 16) (by omega)
      clear hF
      have i2 : (2 : Int) ≤ k ∧ (k : Int) - 2 < 80 := by omega
      have i7 : (7 : Int) ≤ k ∧ (k : Int) - 7 < 80 := by omega
      have i15 : (15 : Int) ≤ k ∧ (k : Int) - 15 < 80 := by omega
      have i16 : (16 : Int) ≤ k ∧ (k : Int) - 16 < 80 := by omega
      have h16' : 16 ≤ k := by omega
      have ik : (k : Int) < 80 := by omega
      have hf := fun t : Rg.Later wr.heap.size wr => (t.frozen (w.heap.size + 1 + 1) k HR.out.lt).trans (HR.out.frozen k)
      have hck := fun t : Rg.Later wr.heap.size wr => (t.cell (w.heap.size + 1 + 1) k HR.out.lt).trans (HR.out.cell k (by rw [h80.out]; omega))
      refine Rg.wp_region_later wr.heap.size 31 (by kernel_rfl) (by kernel_rfl) ?_
      simp only [List.take_succ_cons, List.take_zero, List.drop_succ_cons, List.drop_zero]
      repeat (first | (go_big_quiet_want; refine Rg.quiet_load_row 113 _ rfl _ rfl _ _ _ (HK'.out.later HL.out) Tryz.underlying113 rfl rfl ?_; simp only [Act.put, List.setIfInBounds_toArray, List.set_cons_succ, List.set_cons_zero]; go_big_quiet_on) | go_big_quiet_step (first | (go_at_call 122; exact Rg.later_of (Nat.le_refl _) (small512_any _ _ _ _ _ (Hg.out _) (by decide) (by decide) (by decide) (by decide) (by decide) (by decide))) | (go_at_call 116; exact Rg.later_of (Nat.le_refl _) (cut512_any _ _ (Nat.mod_lt _ (by decide))))))
      refine wpQuiet_nil ?_
      rintro _ ⟨t, rfl⟩
      go_wp2
      go_roundw
      case rel =>
       refine ⟨k + 1, by omega, by go_num, ?_, (HB.out.trans (t.is.mono (by omega))).setCell (Nat.le_refl _) _⟩
       have hv := sched_next 64 s.data.toList k (by omega) h16 _ rfl
       rw [← hv]
       refine (HR.out.below t.is HR.out.lt).storeI k _ ?_
       simp only [sg0, sg1, Nat.reduceEqDiff, if_false]
       omega
      case measure => simp [intOf]; omega
  · obtain rfl : k = 80 := by omega
    have h80 := pad80_length (sched 64 s.data.toList 80) (by rw [sched_length]; omega)
    have hsz : (Cl.u64s (pad80 (sched 64 s.data.toList 80))).size = 80 := by simp [Cl.u64s, h80]
    have HS := ϕ hsz
    have HT' := ϕ (HT.out.below HB.out (by omega))
    have HHB := ϕ HB.out
    clear hsz h80
    go_wp2_with (first
     | (refine wpList_load_row rfl 147 _ rfl _ rfl _ _ _ _ HR.out Tryz.underlying147 rfl (by rw [HS.out]; rfl) ?_)
     | (refine wpList_store_row rfl 147 _ _ rfl _ _ rfl rfl _ _ HT'.out (by rw [HS.out]; rfl) (by rw [HS.out]; rfl) (Cl.u64s_one _) ?_))
    have hb1 : Below w.heap.size w wr := hBW.out.trans (HHB.out.mono (by omega))
    exact bodyPost_ret (v := .agg (Cl.u64s (pad80 (sched 64 s.data.toList 80))))
     (results_cell_row Tryz.results114 _ _ (w.heap.size + 1) 147 _ (0, 0) _ rfl (setRow_heap _ _ _ _ _ _ HT'.out) Tryz.underlying147 rfl (by rw [HS.out]; rfl)) rfl
     ⟨rfl, Rg.below_setRow hb1 (by omega) _⟩
end Go.Proofs.YtfpcelmekfdafaaGreatDoor.Sha
namespace Go.Proofs.YtfpcelmekfdafaaGreatDoor.Sha
open Go.RowKit Go.Proofs.YtfpcelmekfdafaaGreatDoor.Cl
theorem one_cells (l : List Nat) : ∀ v ∈ l.map fun (x : Nat) => Value.int .u64 (x : Int), v.oneCell' = true := by
 intro v hv
 obtain ⟨x, _, rfl⟩ := List.mem_map.1 hv
 rfl
theorem blk_grown {w w' : World} {b g T : Nat} {cs : Array Value} (h : Rg.Blk w b T cs) (hg : w.grownBy w' (some g)) (hn : b ≠ g) : Rg.Blk w' b T cs := by
 unfold Rg.Blk at *
 rw [hg.block b (Array.getElem?_eq_some_iff.1 h).1 (fun e => hn (Option.some.inj e))]; exact h
theorem grown_of_below {w w' : World} (h : Below w.heap.size w w') (r : Option Nat) : w.grownBy w' r := ⟨h.os, h.tape, h.output, h.size, fun k hk _ => h.block k hk⟩
theorem grown_trans {a b c : World} {r : Option Nat} (h : a.grownBy b r) (h' : b.grownBy c r) : a.grownBy c r :=
 ⟨h'.os.trans h.os, h'.tape.trans h.tape, h'.output.trans h.output, Nat.le_trans h.size h'.size, fun k hk hr => (h'.block k (Nat.lt_of_lt_of_le hk h.size) hr).trans (h.block k hk hr)⟩
/-- the first j words mixed in -/
def mixPart (W : Nat) (h x : List Nat) (j : Nat) : List Nat := (List.range 8).map fun i => if i < j then (nth h i + nth x i) % 2 ^ W else nth h i
theorem mixPart_length (W : Nat) (h x : List Nat) (j : Nat) : (mixPart W h x j).length = 8 := by simp [mixPart]
theorem mixed_part (W : Nat) (blk : List UInt8) (h : List Nat) : mixed W blk h = mixPart W h (mixAll W blk h) 8 := by
 unfold mixed mixPart
 exact List.map_congr_left fun i hi => (if_pos (List.mem_range.1 hi)).symm
theorem mixPart_zero (W : Nat) (h x : List Nat) (hl : h.length = 8) : mixPart W h x 0 = h := by
 match h, hl with
 | [a, b, c, d, e, f, g, i], _ => rfl
theorem mixPart_set (W : Nat) (h x : List Nat) (j v : Nat) (hj : j < 8) (hv : v = (nth h j + nth x j) % 2 ^ W) : (mixPart W h x j).set j v = mixPart W h x (j + 1) := by
 apply List.ext_getElem
 · simp [mixPart]
 · intro i h1 h2
   rw [List.getElem_set]
   simp only [mixPart, List.getElem_map, List.getElem_range]
   by_cases hij : j = i
   · subst hij; simp [hv]
   · have : i < j + 1 ↔ i < j := by omega
     simp [hij, this]
theorem mixPart_at (W : Nat) (h x : List Nat) (j : Nat) (hj : j < 8) : nth (mixPart W h x j) j = nth h j := by
 simp [nth, mixPart, hj]
theorem mixPart_succ64 (h x : List Nat) (j : Nat) (hj : j < 8) : (mixPart 64 h x j).set j (add64 (nth (mixPart 64 h x j) j) (nth x j)) = mixPart 64 h x (j + 1) :=
 mixPart_set 64 h x j _ hj (by rw [mixPart_at _ _ _ _ hj]; rfl)
/-- a shift by one place -/
def sh (xs : List Nat) : List Nat := [nth xs 0, nth xs 0, nth xs 1, nth xs 2, nth xs 3, nth xs 4, nth xs 5, nth xs 6]
theorem sh_length (xs : List Nat) (_ : xs.length = 8) : (sh xs).length = 8 := rfl
theorem splice_sh (xs : List Nat) (h : xs.length = 8) : (splice (xs.map fun (x : Nat) => Value.int .u64 (x : Int)) 1 ((xs.take 7).map fun (x : Nat) => Value.int .u64 (x : Int))).toArray = u64s (sh xs) := by
 match xs, h with
 | [a, b, c, d, e, f, g, i], _ => rfl
theorem copy_src {w : World} {b T : Nat} {xs : List Nat} (h : Row w b T xs) (hl : xs.length = 8) : ∀ j v, ((xs.take 7).map fun (x : Nat) => Value.int .u64 (x : Int))[j]? = some v → w.cell? ((⟨b, 0, none⟩ : Addr).add j) = some v := by
 intro j v hv
 have hadd : (⟨b, 0, none⟩ : Addr).add j = ⟨b, j, none⟩ := by unfold Addr.add; split <;> simp_all
 have hj : j < 7 := by
  have := (List.getElem?_eq_some_iff.1 hv).1
  simp [hl] at this; omega
 rw [hadd, h.cell j (by omega), ← hv]
 simp [List.getElem?_take, hj, nth, List.getElem?_eq_getElem (show j < xs.length by omega)]
theorem round64 (xs : List Nat) (k wt : Nat) : ((sh xs).set 4 (add64 (nth (sh xs) 4) (add64 (add64 (add64 (add64 (nth xs 7) (three 64 (nth xs 4) 14 18 41)) (ch (nth xs 4) (nth xs 5) (nth xs 6))) (nth wordsL k)) wt))).set 0
 (add64 (add64 (add64 (add64 (add64 (nth xs 7) (three 64 (nth xs 4) 14 18 41)) (ch (nth xs 4) (nth xs 5) (nth xs 6))) (nth wordsL k)) wt) (add64 (three 64 (nth xs 0) 28 34 39) (mj (nth xs 0) (nth xs 1) (nth xs 2)))) = mixRound 64 xs (kw 64 k) wt := by
 rfl
attribute [local go_sem] wrap_add64
theorem mix512 (w : World) (hb : Nat) (hh : List Nat) (s : ByteArray) (hs : s.size = 128) (hT : Tables w) (hb2 : 2 ≤ hb) (hR : Row w hb 124 hh) (hl : hh.length = 8) (hlt : ∀ i, nth hh i < 18446744073709551616) :
 Calls Tryz.prog 103 #[K512, .pointer (some ⟨hb, 0, none⟩), .string s] w fun e w' => e = .returned (.tuple #[]) ∧ Row w' hb 124 (mixed 64 s.data.toList hh) ∧ w.grownBy w' (some hb) := by
 have HR := ϕ hR
 have HT := ϕ hT
 have HLT := ϕ hlt
 have hS8 := ϕ (show (u64s hh).size = 8 by simp [u64s, hl])
 have hbl := hR.lt
 have HS80 := ϕ (show (Cl.u64s (msg 64 s.data.toList)).size = 80 by simp [Cl.u64s, msg_length])
 clear hR hT hlt hl
 unfold K512
 go_enter Tryz.func103, Tryz.ntmps103
 go_wp2_with (first
  | (refine Rg.box_fresh rfl 113 _ rfl _ rfl ?_; intro V hK hbV hnV; have HK := ϕ hK; have HBV := ϕ hbV; have HNV := ϕ hnV; clear hK hbV hnV)
  | (refine wpList_load_row rfl 113 _ rfl w.heap.size rfl _ _ _ _ HK.out Tryz.underlying113 rfl (by kernel_rfl) ?_)
  | (go_at_call 114; refine (sched512 _ _ hs).mono ?_; rintro e w1 ⟨rfl, hb1⟩; have HB1 := ϕ hb1; clear hb1; have tok := True.intro)
  | (have _t := tok; refine Rg.store_fresh rfl 147 _ _ rfl _ _ _ rfl rfl (by rw [HS80.out]; rfl) (by rw [HS80.out]; rfl) (u64s_one _) ?_; intro X hM hbX; clear tok _t
     have HM := ϕ hM; have HBX := ϕ hbX; clear hM hbX; have tok2 := True.intro)
  | (have _t := tok2; refine wpList_load_row rfl 124 _ rfl hb rfl _ _ _ _ (((HR.out.below HBV.out hbl).below HB1.out (by rw [HNV.out]; omega)).below HBX.out (by have := HB1.out.size; rw [HNV.out] at this; omega)) Tryz.underlying124 rfl (by rw [hS8.out]; rfl) ?_; skip; clear _t tok2; have tok3 := True.intro)
  | (have _t := tok3; refine Rg.store_fresh rfl 124 _ _ rfl _ _ _ rfl rfl (by rw [hS8.out]; rfl) (by rw [hS8.out]; rfl) (u64s_one _) ?_; intro Y hX hbY; clear tok3 _t; have HX := ϕ hX
     have hVw : w.heap.size + 1 ≤ w1.heap.size := by have := HB1.out.size; rw [HNV.out] at this; exact this
     have hwX : w1.heap.size ≤ X.heap.size := HBX.out.size
     have HKY := ϕ (((HK.out.below HB1.out HK.out.lt).below HBX.out (by omega)).below hbY (by omega))
     have HMY := ϕ (HM.out.below hbY HM.out.lt)
     have HBW := ϕ (show Below w.heap.size w Y from ((HBV.out.trans (HB1.out.mono (by rw [HNV.out]; omega))).trans (HBX.out.mono (by omega))).trans (hbY.mono (by omega)))
     have k1 := HKY.out.cell 1 (v := .int .i64 80) rfl
     have hXY : X.heap.size < Y.heap.size := HX.out.lt
     have hMX : w1.heap.size < X.heap.size := HM.out.lt
     clear hX hbY))
 go_loopw [20] (fun i wr => ∃ k : Nat, k ≤ 80 ∧ i = .int .i64 k ∧ Row wr X.heap.size 124 (mixTo 64 (msg 64 s.data.toList) hh k) ∧ Below X.heap.size Y wr) (fun i _ => 80 - (intOf i).toNat)
 case atStart => exact ⟨0, by decide, rfl, HX.out, Below.refl _ _⟩
 case round =>
  obtain ⟨k, hk, rfl, hR, hb⟩ := hrel
  have HRr := ϕ hR
  have HBr := ϕ hb
  have hwr : X.heap.size < wr.heap.size := hR.lt
  have HKr := ϕ (HKY.out.below hb (by omega))
  have HMr := ϕ (show Row wr w1.heap.size 147 (msg 64 s.data.toList) from HMY.out.below hb hMX)
  have HTr := ϕ ((HT.out.below HBW.out HT.out.size).below hb (by have := HT.out.size; omega))
  clear hR hb k1
  by_cases hlt : k < 80
  · go_wp2_with fail
    have hg := mixTo_lt 64 (msg 64 s.data.toList) hh HLT.out k
    have hgl := mixTo_length 64 (msg 64 s.data.toList) hh (by have := hS8.out; simpa [u64s] using this) k
    have HE := ϕ (show mixTo 64 (msg 64 s.data.toList) hh (k + 1) = mixRound 64 (mixTo 64 (msg 64 s.data.toList) hh k) (kw 64 k) (nth (msg 64 s.data.toList) k) from rfl)
    generalize mixTo 64 (msg 64 s.data.toList) hh k = xs at *
    have hKl : w.heap.size < wr.heap.size := by omega
    have hMl : w1.heap.size < wr.heap.size := by omega
    have hTl : 3 ≤ wr.heap.size := HTr.out.size
    have Hg := ϕ hg
    have Hl := ϕ hgl
    clear hg hgl
    have x0 := fun s : Rg.Later wr.heap.size wr => (s.cell X.heap.size 0 hwr).trans (HRr.out.cell 0 (by rw [Hl.out]; decide))
    have x1 := fun s : Rg.Later wr.heap.size wr => (s.cell X.heap.size 1 hwr).trans (HRr.out.cell 1 (by rw [Hl.out]; decide))
    have x2 := fun s : Rg.Later wr.heap.size wr => (s.cell X.heap.size 2 hwr).trans (HRr.out.cell 2 (by rw [Hl.out]; decide))
    have x3 := fun s : Rg.Later wr.heap.size wr => (s.cell X.heap.size 3 hwr).trans (HRr.out.cell 3 (by rw [Hl.out]; decide))
    have x4 := fun s : Rg.Later wr.heap.size wr => (s.cell X.heap.size 4 hwr).trans (HRr.out.cell 4 (by rw [Hl.out]; decide))
    have x5 := fun s : Rg.Later wr.heap.size wr => (s.cell X.heap.size 5 hwr).trans (HRr.out.cell 5 (by rw [Hl.out]; decide))
    have x6 := fun s : Rg.Later wr.heap.size wr => (s.cell X.heap.size 6 hwr).trans (HRr.out.cell 6 (by rw [Hl.out]; decide))
    have x7 := fun s : Rg.Later wr.heap.size wr => (s.cell X.heap.size 7 hwr).trans (HRr.out.cell 7 (by rw [Hl.out]; decide))
    have c8 := HKr.out.cellL hKl 8 (v := .int .i64 28) rfl
    have c9 := HKr.out.cellL hKl 9 (v := .int .i64 34) rfl
    have c10 := HKr.out.cellL hKl 10 (v := .int .i64 39) rfl
    have c11 := HKr.out.cellL hKl 11 (v := .int .i64 14) rfl
    have c12 := HKr.out.cellL hKl 12 (v := .int .i64 18) rfl
    have c13 := HKr.out.cellL hKl 13 (v := .int .i64 41) rfl
    have m := fun s : Rg.Later wr.heap.size wr => (s.cell w1.heap.size k hMl).trans (HMr.out.cell k (by rw [msg_length]; omega))
    have tk := fun s : Rg.Later wr.heap.size wr => (s.cell 2 k (Nat.lt_of_lt_of_le (by decide) hTl)).trans (HTr.out.words k (by omega))
    have ik : (k : Int) < 80 := by omega
    have b0 : ∀ i, nth xs i < 18446744073709551616 := fun i => Nat.lt_of_lt_of_le (Hg.out i) (by decide)
    have e1 := ch_e1 (nth xs 4) (nth xs 5) (b0 4) (b0 5)
    have e2 := not_u64 (nth xs 4) (b0 4)
    have e3 := ch_e3 (nth xs 4) (nth xs 6) (b0 6)
    have e4 := ch_e4 (nth xs 4) (nth xs 5) (nth xs 6) (b0 4)
    have e5 := ch_e1 (nth xs 0) (nth xs 1) (b0 0) (b0 1)
    have e6 := ch_e1 (nth xs 0) (nth xs 2) (b0 0) (b0 2)
    have e7 := ch_e1 (nth xs 1) (nth xs 2) (b0 1) (b0 2)
    have e8 := mj_e1 (nth xs 0) (nth xs 1) (nth xs 2) (b0 0)
    have e9 := mj_e2 (nth xs 0) (nth xs 1) (nth xs 2) (b0 0) (b0 1)
    clear b0
    refine Rg.wp_region_later_all wr.heap.size (by kernel_rfl) (by kernel_rfl) ?_
    repeat (first | (go_big_quiet_want; refine Rg.quiet_load_row 113 _ rfl _ rfl _ _ _ (HKr.out.later hKl) Tryz.underlying113 rfl (by kernel_rfl) ?_; simp only [Act.put, List.setIfInBounds_toArray, List.set_cons_succ, List.set_cons_zero]; go_big_quiet_on) | go_big_quiet_step (first | (go_at_call 115; exact Rg.later_of (Nat.le_refl _) (large512_any _ _ _ _ _ (Hg.out _) (by decide) (by decide) (by decide) (by decide) (by decide) (by decide))) | (go_at_call 98; exact Rg.later_of (Nat.le_refl _) (word512_any _ _))))
    refine wpQuiet_nil ?_
    rintro _ ⟨s1, rfl⟩
    go_wp2_with fail
    refine Rg.wp_region_from_all (by kernel_rfl) (by kernel_rfl) ?_
    repeat (first | (go_big_quiet_want; refine Rg.quiet_load_row 113 _ rfl _ rfl _ _ _ (HKr.out.later hKl) Tryz.underlying113 rfl (by kernel_rfl) ?_; simp only [Act.put, List.setIfInBounds_toArray, List.set_cons_succ, List.set_cons_zero]; go_big_quiet_on) | go_big_quiet_step ((go_at_call 115; exact Rg.later_of (Nat.le_refl _) (large512_any _ _ _ _ _ (Hg.out _) (by decide) (by decide) (by decide) (by decide) (by decide) (by decide)))))
    refine wpQuiet_nil ?_
    rintro _ ⟨s2, rfl⟩
    go_wp2_with fail
    refine Rg.wp_region_from 2 (by kernel_rfl) (by kernel_rfl) ?_
    simp only [List.take_succ_cons, List.take_zero, List.drop_succ_cons, List.drop_zero]
    repeat (go_big_quiet_step (fail))
    refine wpQuiet_nil ?_
    rintro _ ⟨s3, rfl⟩
    have HR3 := ϕ (HRr.out.below s3.is hwr)
    have HB3 := ϕ (HBr.out.trans (s3.is.mono (by omega)))
    clear x0 x1 x2 x3 x4 x5 x6 x7 c8 c9 c10 c11 c12 c13 m tk e1 e2 e3 e4 e5 e6 e7 e8 e9
    refine wpList_copy_splice rfl (.tmp 79) (.tmp 80) 117 117 rfl 46 Tryz.underlying117 (by kernel_rfl) (some ⟨X.heap.size, 1, none⟩) (some ⟨X.heap.size, 0, none⟩) 7 7 7 8 rfl rfl X.heap.size 1
     (xs.map fun (x : Nat) => Value.int .u64 (x : Int)) 124 HR3.out ((xs.take 7).map fun (x : Nat) => Value.int .u64 (x : Int)) (by simp [Hl.out]) (fun _ => ⟨rfl, _, rfl, copy_src HR3.out Hl.out⟩) (by simp [Hl.out]) (one_cells _) X.heap.size Y HB3.out (Nat.le_refl _) ?_
    intro w4 HR4 hb4
    rw [splice_sh xs Hl.out] at HR4
    have HB4 := ϕ hb4
    clear hb4
    have hw4 : X.heap.size < w4.heap.size := (show Row w4 X.heap.size 124 (sh xs) from HR4.out).lt
    have HK4 := ϕ (HKY.out.below HB4.out (by omega))
    have hsh : (sh xs).length = 8 := sh_length xs Hl.out
    have HSH := ϕ hsh
    clear hsh
    have x4 := (show Row w4 X.heap.size 124 (sh xs) from HR4.out).cell 4 (by rw [HSH.out]; decide)
    have tok5 := True.intro
    go_wp2_with (first
     | (have _t := tok5; refine wpList_load_row rfl 113 _ rfl w.heap.size rfl _ _ _ _ HK4.out Tryz.underlying113 rfl (by kernel_rfl) ?_; skip; clear _t)
     | (have _t := tok5; go_at_call 116; refine (cut512_any _ _ (add64_lt _ _)).mono ?_; rintro e w5 ⟨rfl, hb5⟩; skip; clear tok5 _t x4; have tok6 := True.intro
        have HR5 := ϕ ((show Row w4 X.heap.size 124 (sh xs) from HR4.out).below hb5 hw4)
        have HK5 := ϕ (HK4.out.below hb5 (by omega))
        have hw5 : X.heap.size < w5.heap.size := HR5.out.lt
        have HB5 := ϕ (HB4.out.trans (hb5.mono (by omega))); clear hb5)
     | (have _t := tok6; refine store_cell rfl 46 _ _ rfl rfl rfl Tryz.underlying46 (by kernel_rfl) HR5.out (by rw [HSH.out]; decide) ?_; skip; clear tok6 _t; intro w6 hR6 hg6; have tok7 := True.intro
        have HR6 := ϕ hR6
        have HK6 := ϕ (blk_grown HK5.out hg6 (by omega))
        have HB6 := ϕ (HB5.out.grown hg6 (by omega) (fun k hk => by cases hk; exact Nat.le_refl _))
        clear hR6 hg6)
     | (have _t := tok7; refine wpList_load_row rfl 113 _ rfl w.heap.size rfl _ _ _ _ HK6.out Tryz.underlying113 rfl (by kernel_rfl) ?_; skip; clear _t)
     | (have _t := tok7; go_at_call 116; refine (cut512_any _ _ (add64_lt _ _)).mono ?_; rintro e w7 ⟨rfl, hb7⟩; skip; clear tok7 _t; have tok8 := True.intro
        have hw6 : X.heap.size < w6.heap.size := HR6.out.lt
        have HR7 := ϕ (HR6.out.below hb7 hw6)
        have HB7 := ϕ (HB6.out.trans (hb7.mono (by omega))); clear hb7)
     | (have _t := tok8; refine store_cell rfl 46 _ _ rfl rfl rfl Tryz.underlying46 (by kernel_rfl) HR7.out (by rw [List.length_set, HSH.out]; decide) ?_; skip; clear tok8 _t; intro w8 hR8 hg8
        have HR8 := ϕ hR8
        have HB8 := ϕ (HB7.out.grown hg8 (by have := HR7.out.lt; omega) (fun k hk => by cases hk; exact Nat.le_refl _))
        clear hR8 hg8))
    go_roundw
    case rel =>
     refine ⟨k + 1, by omega, by go_num, ?_, HB8.out⟩
     rw [HE.out]
     exact (round64 xs k (nth (msg 64 s.data.toList) k)) ▸ HR8.out
    case measure => simp [intOf]; omega
  · obtain rfl : k = 80 := by omega
    have hxl : (mixTo 64 (msg 64 s.data.toList) hh 80).length = 8 := mixTo_length 64 _ _ (by have := hS8.out; simpa [u64s] using this) _
    have hxg := mixTo_lt 64 (msg 64 s.data.toList) hh HLT.out 80
    have HM2 := ϕ (show mixed 64 s.data.toList hh = mixPart 64 hh (mixTo 64 (msg 64 s.data.toList) hh 80) 8 by rw [mixed_part, mixAll64])
    have HRh := ϕ (show Row wr hb 124 (mixPart 64 hh (mixTo 64 (msg 64 s.data.toList) hh 80) 0) from by
     rw [mixPart_zero _ _ _ (by have := hS8.out; simpa [u64s] using this)]; exact (HR.out.below HBW.out hbl).below HBr.out (by omega))
    have HG0 := ϕ (show w.grownBy wr (some hb) from grown_of_below (HBW.out.trans (HBr.out.mono (by omega))) _)
    generalize mixTo 64 (msg 64 s.data.toList) hh 80 = xs at *
    have Hl := ϕ hxl
    have Hg := ϕ hxg
    clear hxl hxg
    obtain ⟨wo, rfl⟩ : ∃ wo : World, wo = wr := ⟨_, rfl⟩
    go_wp2_with fail
    go_loopw [96] (fun i wr => ∃ j : Nat, j ≤ 8 ∧ i = .int .i64 j ∧ Row wr hb 124 (mixPart 64 hh xs j) ∧ Row wr X.heap.size 124 xs ∧ Rg.Blk wr w.heap.size 113 k512c ∧ w.grownBy wr (some hb)) (fun i _ => 8 - (intOf i).toNat)
    case atStart => exact ⟨0, by decide, rfl, HRh.out, HRr.out, HKr.out, HG0.out⟩
    case round =>
     obtain ⟨j, hj, rfl, hR1, hR2, hK1, hG1⟩ := hrel
     have HH1 := ϕ hR1
     have HX1 := ϕ hR2
     have HK1 := ϕ hK1
     have HG1 := ϕ hG1
     clear hR1 hR2 hK1 hG1 HRh HG0
     by_cases hj8 : j < 8
     · go_wp2_with fail
       have hKl : w.heap.size < wr.heap.size := HK1.out.lt
       have hHl : hb < wr.heap.size := HH1.out.lt
       have hXl : X.heap.size < wr.heap.size := HX1.out.lt
       have f1 := fun s : Rg.Later wr.heap.size wr => (s.cell hb j hHl).trans (HH1.out.cell j (by rw [mixPart_length]; exact hj8))
       have f2 := fun s : Rg.Later wr.heap.size wr => (s.cell X.heap.size j hXl).trans (HX1.out.cell j (by rw [Hl.out]; exact hj8))
       have ij : (j : Int) < 8 := by omega
       refine Rg.wp_region_later wr.heap.size 15 (by kernel_rfl) (by kernel_rfl) ?_
       simp only [List.take_succ_cons, List.take_zero, List.drop_succ_cons, List.drop_zero]
       repeat (first | (go_big_quiet_want; refine Rg.quiet_load_row 113 _ rfl _ rfl _ _ _ (HK1.out.later hKl) Tryz.underlying113 rfl (by kernel_rfl) ?_; simp only [Act.put, List.setIfInBounds_toArray, List.set_cons_succ, List.set_cons_zero]; go_big_quiet_on) | go_big_quiet_step ((go_at_call 116; exact Rg.later_of (Nat.le_refl _) (cut512_any _ _ (add64_lt _ _)))))
       refine wpQuiet_nil ?_
       rintro _ ⟨s9, rfl⟩
       clear f1 f2
       refine store_cell rfl 46 _ _ rfl rfl rfl Tryz.underlying46 (by kernel_rfl) (HH1.out.below s9.is hHl) (by rw [mixPart_length]; exact hj8) ?_
       intro w9 hR9 hg9
       have HR9 := ϕ hR9
       have HG9 := ϕ (grown_trans (grown_trans HG1.out (grown_of_below s9.is (some hb)) ) hg9)
       have HX9 := ϕ (show Row w9 X.heap.size 124 xs from blk_grown (HX1.out.below s9.is hXl) hg9 (by omega))
       have HK9 := ϕ (blk_grown (HK1.out.below s9.is hKl) hg9 (by omega))
       clear hR9 hg9
       go_wp2_with fail
       go_roundw
       case rel =>
        (repeat apply Exists.intro)
        exact ⟨⟨j + 1, by omega, by go_num, mixPart_succ64 hh xs j hj8 ▸ HR9.out, HX9.out, HK9.out, HG9.out⟩, rfl⟩
       case measure => simp [intOf]; omega
     · obtain rfl : j = 8 := by omega
       go_wp2_with fail
       exact bodyPost_end (v := .tuple #[]) (results_none Tryz.results103 _ _ _) rfl ⟨rfl, by rw [HM2.out]; exact HH1.out, HG1.out⟩
end Go.Proofs.YtfpcelmekfdafaaGreatDoor.Sha
namespace Go.Proofs.YtfpcelmekfdafaaGreatDoor.Sha
open Go.RowKit Go.Proofs.YtfpcelmekfdafaaGreatDoor.Cl
theorem refcut64 (w : World) (x : Nat) : Calls Tryz.prog 106 #[.int .u64 x, .int .i64 64] w fun e w' => e = .returned (.int .u64 x) ∧ w = w' := by
 go_enter Tryz.func106, Tryz.ntmps106
 go_wp2
 go_ret
 exact ⟨by simp, rfl⟩
theorem refcut64y (w : World) (x y : Nat) (hy : y = x) : Calls Tryz.prog 106 #[.int .u64 x, .int .i64 64] w fun e w' => e = .returned (.int .u64 y) ∧ w = w' := by subst hy; exact refcut64 w y
theorem right_val64 (x n : Nat) (hx : x < 18446744073709551616) (hn : n < 64) : bits .or .u64 ((x : Int) / 2 ^ n) (IntKind.u64.wrap ((x : Int) * 2 ^ (64 - n))) = ((rot 64 x n : Nat) : Int) := by
 have h1 : (x : Int) / 2 ^ n = ((x / 2 ^ n : Nat) : Int) := by rw [Int.natCast_ediv, Int.natCast_pow]; rfl
 have h2 : IntKind.u64.wrap ((x : Int) * 2 ^ (64 - n)) = ((x * 2 ^ (64 - n) % 2 ^ 64 : Nat) : Int) := by
  rw [IntKind.wrap_u64, Int.natCast_emod, Int.natCast_mul, Int.natCast_pow]; rfl
 rw [h1, h2, u64_or_nat _ _ (Nat.lt_of_le_of_lt (Nat.div_le_self _ _) hx) (Nat.mod_lt _ (by decide)), Nat.or_comm, rot_left 64 x n hx]
theorem refright64 (w : World) (x : Nat) (n : Int) (hx : x < 18446744073709551616) (hn : 0 < n) (hn2 : n < 64) : Calls Tryz.prog 117 #[.int .u64 x, .int .i64 n, .int .i64 64] w fun e w' => e = .returned (.int .u64 (rot 64 x n.toNat : Nat)) ∧ ∃ k, w' = w.drewN k := by
 have hm : min n.toNat 64 = n.toNat := by omega
 have hm2 : min (64 - n.toNat) 64 = 64 - n.toNat := by omega
 have e := right_val64 x n.toNat hx (by omega)
 have ht : (64 - n).toNat = 64 - n.toNat := by omega
 have hp : 0 ≤ 64 - n := by omega
 go_enter Tryz.func117, Tryz.ntmps117
 go_wp2_with fail
 go_quiet ((go_at_call 106; exact Calls.quiet_of_same ((refcut64 _ _).mono fun _ _ ⟨h1, h2⟩ => ⟨h1, h2.symm⟩)))
 go_wp2
 go_ret
 exact ⟨by rfl, _, rfl⟩
theorem refthreeS64 (w : World) (x : Nat) (a b c : Int) (hx : x < 18446744073709551616) (ha : 0 < a) (ha2 : a < 64) (hb : 0 < b) (hb2 : b < 64) (hc0 : 0 < c) (hc1 : c < 64) : Calls Tryz.prog 105 #[.int .u64 x, .int .i64 a, .int .i64 b, .int .i64 c, .int .i64 64, .bool true] w fun e w' => e = .returned (.int .u64 (threeS 64 x a.toNat b.toNat c.toNat : Nat)) ∧ ∃ k, w' = w.drewN k := by
 have hm : min c.toNat 64 = c.toNat := by omega
 have hc : 0 ≤ c := by omega
 go_enter Tryz.func105, Tryz.ntmps105
 go_wp2_with (go_at_call 117; refine (refright64 _ _ _ hx (by assumption) (by assumption)).mono ?_; rintro e w1 ⟨rfl, n1, rfl⟩)
 go_ret
 refine ⟨?_, ?_⟩
 · show Ending.returned (.int .u64 (bits .xor .u64 (bits .xor .u64 (rot 64 x a.toNat : Int) (rot 64 x b.toNat : Int)) ((x : Int) / 2 ^ c.toNat))) = _
   rw [xor_rot 64 x _ _ (by decide), show (x : Int) / 2 ^ c.toNat = ((x / 2 ^ c.toNat : Nat) : Int) by rw [Int.natCast_ediv, Int.natCast_pow]; rfl, xor_threeS 64 x _ _ _ (by decide) hx]
 · first | exact ⟨_, rfl⟩ | exact ⟨_, World.drewN_drewN _ _ _⟩ | exact ⟨_, by rw [World.drewN_drewN, World.drewN_drewN]⟩
theorem refthree64 (w : World) (x : Nat) (a b c : Int) (hx : x < 18446744073709551616) (ha : 0 < a) (ha2 : a < 64) (hb : 0 < b) (hb2 : b < 64) (hc0 : 0 < c) (hc1 : c < 64) : Calls Tryz.prog 105 #[.int .u64 x, .int .i64 a, .int .i64 b, .int .i64 c, .int .i64 64, .bool false] w fun e w' => e = .returned (.int .u64 (three 64 x a.toNat b.toNat c.toNat : Nat)) ∧ ∃ k, w' = w.drewN k := by
 have hm : min c.toNat 64 = c.toNat := by omega
 have hc : 0 ≤ c := by omega
 go_enter Tryz.func105, Tryz.ntmps105
 go_wp2_with (go_at_call 117; refine (refright64 _ _ _ hx (by assumption) (by assumption)).mono ?_; rintro e w1 ⟨rfl, n1, rfl⟩)
 go_ret
 refine ⟨?_, ?_⟩
 · show Ending.returned (.int .u64 (bits .xor .u64 (bits .xor .u64 (rot 64 x a.toNat : Int) (rot 64 x b.toNat : Int)) (rot 64 x c.toNat : Int))) = _
   rw [xor_rot 64 x _ _ (by decide), xor_three 64 x _ _ _ (by decide)]
 · first | exact ⟨_, rfl⟩ | exact ⟨_, World.drewN_drewN _ _ _⟩ | exact ⟨_, by rw [World.drewN_drewN, World.drewN_drewN]⟩
theorem refk (w : World) (t : Nat) (ht : t < 80) : Calls Tryz.prog 107 #[.int .i64 t] w fun e w' => e = .returned (.int .u64 (nth wordsL t : Nat)) ∧ Below w.heap.size w w' := by
 have hi : (t : Int) < 80 := by omega
 have hl : t < wordsL.length := ht
 go_enter Tryz.func107, Tryz.ntmps107
 go_wp2_with (refine wpList_buildFlat rfl 117 46 80 _ rfl .u64 (wordsL.map fun (x : Nat) => (x : Int)) Tryz.underlying117 (by kernel_rfl) (by kernel_rfl) (by rfl) (by decide) (by decide) (by kernel_rfl) ?_
              generalize hX : World.alloc w _ = X
              have hR : Row X w.heap.size 46 wordsL := by subst hX; have := Rg.Blk.new w (((wordsL.map fun (x : Nat) => (x : Int)).map (Value.int .u64)).toArray) 46; rw [List.map_map] at this; exact this
              have HB := ϕ (show Below w.heap.size w X by subst hX; exact (Below.refl _ _).alloc (Nat.le_refl _) _)
              have hc := hR.cell t hl
              clear hX hR)
 go_ret
 exact ⟨rfl, HB.out⟩
theorem refstart (w : World) : Calls Tryz.prog 93 #[] w fun e w' => e = .returned (.slice (some ⟨w.heap.size, 0, none⟩) 8 8) ∧ w' = w.alloc (.cells (u64s firstL) 46) := by
 go_enter Tryz.func93, Tryz.ntmps93
 go_wp2
 go_ret
 exact ⟨rfl, rfl⟩
end Go.Proofs.YtfpcelmekfdafaaGreatDoor.Sha
namespace Go.Proofs.YtfpcelmekfdafaaGreatDoor.Ws
open Go.RowKit Go.Proofs.YtfpcelmekfdafaaGreatDoor.Cl
def vals (xs : List Nat) : List Value := xs.map fun (x : Nat) => Value.int .u64 (x : Int)
/-- a slice that reads as the words xs -/
def Words (w : World) (v : Value) (xs : List Nat) : Prop := ∃ b c, v = .slice (some ⟨b, 0, none⟩) xs.length c ∧ xs.length ≤ c ∧ b < w.heap.size ∧ ∀ j, j < xs.length → w.cell? ⟨b, j, none⟩ = some (.int .u64 (nth xs j : Nat))
theorem Words.below {w w' : World} {v : Value} {xs : List Nat} (h : Words w v xs) (hb : Below w.heap.size w w') : Words w' v xs := by
 obtain ⟨b, c, hv, hc, hl, hx⟩ := h
 exact ⟨b, c, hv, hc, Nat.lt_of_lt_of_le hl hb.size, fun j hj => (hb.cell (p := ⟨b, j, none⟩) hl).trans (hx j hj)⟩
/-- a slice that the call owns, from block B on -/
def Own (w : World) (B T : Nat) (g cap : Nat) (xs : List Nat) : Prop := w.ownsRow B T 1 (.slice (some ⟨g, 0, none⟩) xs.length cap) xs.length (vals xs)
theorem Own.cell {w : World} {B T g cap : Nat} {xs : List Nat} (h : Own w B T g cap xs) (j : Nat) (hj : j < xs.length) : w.cell? ⟨g, j, none⟩ = some (.int .u64 (nth xs j : Nat)) := by
 rw [World.ownsRow.cellAt h j (by omega)]
 simp [vals, nth, hj]
theorem Own.lt {w : World} {B T g cap : Nat} {xs : List Nat} (h : Own w B T g cap xs) : B ≤ g ∧ g < w.heap.size := World.ownsRow.lt h g rfl
theorem Own.below {w w' : World} {B T g cap : Nat} {xs : List Nat} (h : Own w B T g cap xs) (hb : Below w.heap.size w w') : Own w' B T g cap xs :=
 World.ownsRow.kept h (row := none) ⟨hb.os, hb.tape, hb.output, hb.size, fun k hk _ => hb.block k hk⟩ (.inr (by simp [Value.ownBlock]))
theorem Own.cap {w : World} {B T g cap : Nat} {xs : List Nat} (h : Own w B T g cap xs) : xs.length ≤ cap := by
 rcases h.2 with ⟨h, _⟩ | ⟨g', cap', cur, hv, _, _, hc, _⟩
 · cases h
 · cases hv; exact hc
theorem Own.words {w : World} {B T g cap : Nat} {xs : List Nat} (h : Own w B T g cap xs) : Words w (.slice (some ⟨g, 0, none⟩) xs.length cap) xs :=
 ⟨g, cap, rfl, h.cap, h.lt.2, fun j hj => h.cell j hj⟩
theorem Own.new (w : World) (T B : Nat) (xs : List Nat) (hB : B ≤ w.heap.size) (hm : xs.length ≤ maxLen) : Own (w.alloc (.cells (u64s xs) T)) B T w.heap.size xs.length xs := by
 have := World.ownsRow_lit (base := B) (e := T) (size := 1) w (u64s xs) xs.length hB hm (by simp [u64s])
 exact this
theorem append_vals {w : World} {B T : Nat} {v : Value} {xs : List Nat} {x : Nat} (h : w.ownsRow B T 1 v (xs.length + 1) (vals xs ++ [.int .u64 (x : Int)])) : ∃ g cap, v = .slice (some ⟨g, 0, none⟩) (xs ++ [x]).length cap ∧ Own w B T g cap (xs ++ [x]) := by
 have e : vals xs ++ [.int .u64 (x : Int)] = vals (xs ++ [x]) := by simp [vals]
 rw [e] at h
 have hl : xs.length + 1 = (xs ++ [x]).length := by simp
 rw [hl] at h
 rcases h.2 with ⟨_, h0⟩ | ⟨g, cap, cur, hv, _⟩
 · simp at h0
 · subst hv; exact ⟨g, cap, rfl, h⟩
theorem Own.row {w : World} {B T g cap n : Nat} {xs : List Nat} (h : Own w B T g cap xs) (hn : xs.length = n) : w.ownsRow B T 1 (.slice (some ⟨g, 0, none⟩) n cap) n (vals xs) := hn ▸ h
theorem append_at {w : World} {B T n : Nat} {v : Value} {xs : List Nat} {x : Nat} (hn : xs.length = n) (h : w.ownsRow B T 1 v (n + 1) (vals xs ++ [.int .u64 (x : Int)])) : ∃ g cap, v = .slice (some ⟨g, 0, none⟩) (n + 1) cap ∧ Own w B T g cap (xs ++ [x]) := by
 subst hn
 obtain ⟨g, cap, hv, ho⟩ := append_vals h
 exact ⟨g, cap, by rw [hv]; simp, ho⟩
theorem one_src (w : World) (T : TypeId) (x : Int) : ∀ (j : Nat) u, [Value.int .u64 x][j]? = some u → (w.alloc (.cells #[.int .u64 x] T)).cell? ((⟨w.heap.size, 0, none⟩ : Addr).add j) = some u := by
 intro j u hj
 match j, hj with
 | 0, hj => simp at hj; subst hj; exact (Rg.Blk.new w _ _).cell 0 rfl
theorem own_of_row {w : World} {B T n : Nat} {v : Value} {xs : List Nat} (hn : xs.length = n) (hpos : 0 < n) (h : w.ownsRow B T 1 v n (vals xs)) : ∃ g cap, v = .slice (some ⟨g, 0, none⟩) n cap ∧ Own w B T g cap xs := by
 subst hn
 rcases h.2 with ⟨_, h0⟩ | ⟨g, cap, cur, hv, _⟩
 · omega
 · subst hv; exact ⟨g, cap, rfl, h⟩
/-- eight words at block g -/
def At8 (w : World) (g : Nat) (xs : List Nat) : Prop := g < w.heap.size ∧ ∀ j, j < 8 → w.cell? ⟨g, j, none⟩ = some (.int .u64 (nth xs j : Nat))
theorem At8.below {w w' : World} {g : Nat} {xs : List Nat} (h : At8 w g xs) (hb : Below w.heap.size w w') : At8 w' g xs :=
 ⟨Nat.lt_of_lt_of_le h.1 hb.size, fun j hj => (hb.cell (p := ⟨g, j, none⟩) h.1).trans (h.2 j hj)⟩
theorem Own.at8 {w : World} {B T g cap : Nat} {xs : List Nat} (h : Own w B T g cap xs) (hl : xs.length = 8) : At8 w g xs := ⟨h.lt.2, fun j hj => h.cell j (by omega)⟩
theorem At8.grown {w w' : World} {g : Nat} {xs : List Nat} {row : Option Nat} (h : At8 w g xs) (hg : w.grownBy w' row) (hn : some g ≠ row) : At8 w' g xs :=
 ⟨Nat.lt_of_lt_of_le h.1 hg.size, fun j hj => (World.cell?_of_block (w := w) (a := ⟨g, j, none⟩) (hg.block g h.1 hn)).trans (h.2 j hj)⟩
end Go.Proofs.YtfpcelmekfdafaaGreatDoor.Ws
namespace Go.Proofs.YtfpcelmekfdafaaGreatDoor.Rg
open Go.RowKit
section
variable {P : Program} {ops : Array Oper} {md : Region.Mode} {C : World → Prop}
def sinkFrom (md : Region.Mode) (ops : Array Oper) (m n : Nat) : Bool :=
 (List.range n).all fun i => decide (i < m) || (List.range (n + 1)).any fun j => decide (i < j) && Region.waitsFor md ops j i
theorem tail_waits_from {m n : Nat} {listed : Array Bool} (hs : sinkFrom md ops m n = true) (hc : Region.chainB md ops n = true) (hn : n < ops.size) (inv : HeadInv md ops n listed) :
 ∀ (d i : Nat), n - i = d → m ≤ i → i < n → listed.getD i true = false → ∀ t, n ≤ t → t ∉ Region.ready md ops listed := by
 intro d
 induction d using Nat.strongRecOn with
 | _ d ih =>
  intro i hd hmi hi hun t ht hr
  obtain ⟨_, ot, hot, hall⟩ := mem_ready.1 hr
  have htlt : t < ops.size := (Array.getElem?_eq_some_iff.1 hot).1
  by_cases htn : t = n
  · subst htn
    have h1 := List.all_eq_true.1 hs i (List.mem_range.2 hi)
    simp only [Bool.or_eq_true, decide_eq_true_eq] at h1
    rcases h1 with h1 | h1
    · omega
    obtain ⟨j, hj, hj2⟩ := List.any_eq_true.1 h1
    simp only [Bool.and_eq_true, decide_eq_true_eq] at hj2
    obtain ⟨oj, hoj, e, he, hb, hon⟩ := Region.waitsFor_spec hj2.2
    have hjle : j ≤ t := by have := List.mem_range.1 hj; omega
    by_cases hjt : j = t
    · subst hjt
      have : oj = ot := Option.some.inj (hoj.symm.trans hot)
      subst this
      have h2 := hall e he hb
      rw [hon, getD_both hun] at h2
      cases h2
    · cases hl : listed.getD j false with
      | true =>
       have h2 := inv.closed j oj hoj hl e he hb
       rw [hon, getD_both hun] at h2
       cases h2
      | false =>
       have hjs : j < listed.size := by rw [inv.size]; omega
       exact ih (t - j) (by omega) j rfl (by omega) (by omega) (getD_in hjs hl) t (Nat.le_refl _) hr
  · have h1 := List.all_eq_true.1 hc t (List.mem_range.2 htlt)
    simp only [Bool.or_eq_true, decide_eq_true_eq] at h1
    rcases h1 with h1 | h1
    · omega
    · obtain ⟨o', ho', e, he, hb, hon⟩ := Region.waitsFor_spec h1
      have : o' = ot := Option.some.inj (ho'.symm.trans hot)
      subst this
      have h2 := hall e he hb
      rw [hon, getD_both (inv.tail (t - 1) (by omega) (by omega))] at h2
      cases h2
theorem headQ_first_from {m n i : Nat} {oi : Oper} {v : Value} {L : Array Bool → Act → Prop} (hi : ops[i]? = some oi) (hsel : ∀ (j : Nat) (o : Oper) cs b, ops[j]? = some o → o.op ≠ .select cs b)
 (hs : sinkFrom md ops m n = true) (hc : Region.chainB md ops n = true) (hn : n < ops.size) (hmi : m ≤ i) (hin : i < n)
 (hdone : ∀ listed a, L listed a → ∀ j ∈ Region.ready md ops listed, n ≤ j) :
 ∀ (f : Nat) (listed : Array Bool) (a : Act), HeadInv md ops n listed →
  (∀ j oj, ops[j]? = some oj → j ≠ i → listed.getD j true = false → (∀ e ∈ oj.after, Region.binds md e = true → e.on ≠ i) → oi.apart ops oj = true) →
  i ∈ Region.ready md ops listed → YieldsIn P ops C oi v a →
  headQ P md ops C n L f (listed.setIfInBounds i true) (a.put oi.dst v) → headQ P md ops C n L (f + 1) listed a := by
 intro f
 induction f with
 | zero =>
  intro listed a inv _ hr hy H
  have hun := (mem_ready.1 hr).1
  refine ⟨fun h => (by rw [h] at hr; cases hr), fun j hj => ?_⟩
  have hjn : j < n := by
   rcases Nat.lt_or_ge j n with h | h
   · exact h
   · exact absurd hj (tail_waits_from hs hc hn inv _ i rfl hmi hin hun j h)
  refine ⟨hjn, ?_⟩
  by_cases hji : j = i
  · subst hji; exact hy.qOp hi H
  · have := hdone _ _ H j (ready_mono hj hji)
    omega
 | succ f ih =>
  intro listed a inv hfree hr hy H
  have hun := (mem_ready.1 hr).1
  refine ⟨fun h => (by rw [h] at hr; cases hr), fun j hj => ?_⟩
  have hjn : j < n := by
   rcases Nat.lt_or_ge j n with h | h
   · exact h
   · exact absurd hj (tail_waits_from hs hc hn inv _ i rfl hmi hin hun j h)
  refine ⟨hjn, ?_⟩
  by_cases hji : j = i
  · subst hji; exact hy.qOp hi H
  · have h1 := (H.2 j (ready_mono hj hji)).2
    obtain ⟨hjun, oj, hoj, hall⟩ := mem_ready.1 hj
    have hnot : ∀ e ∈ oj.after, Region.binds md e = true → e.on ≠ i := fun e he hb heq => by
     have h1 := hall e he hb
     rw [heq, getD_both hun] at h1
     cases h1
    have h2 := qOp_put hoj (hfree j oj hoj hji hjun hnot) (fun cs b => hsel i oi cs b hi) (fun cs b => hsel j oj cs b hoj) hy h1
    have hfree' : ∀ k ok, ops[k]? = some ok → k ≠ i → (listed.setIfInBounds j true).getD k true = false →
     (∀ e ∈ ok.after, Region.binds md e = true → e.on ≠ i) → oi.apart ops ok = true := fun k ok hk hki hun hno => by
     refine hfree k ok hk hki ?_ hno
     by_cases hjk : j = k
     · subst hjk; exact hjun
     · rw [getD_set_ne true hjk] at hun; exact hun
    refine qOp_mono (fun a' h3 => ih (listed.setIfInBounds j true) a' (inv.set hj hjn) hfree' (ready_mono hr (Ne.symm hji)) h3.1 ?_) h2
    rw [Array.setIfInBounds_comm _ _ hji]
    exact h3.2
theorem headQ_lex_from {m n g : Nat} {Lq : Act → Prop} (hsel : Region.noSelect ops = true) (hs : sinkFrom md ops m n = true) (hc : Region.chainB md ops n = true) (hn : n < ops.size) :
 ∀ (l : List Oper) (k : Nat) (listed : Array Bool) (a : Act), m ≤ k → (∀ j, j < l.length → l[j]? = ops[k + j]?) → k + l.length = n → HeadInv md ops n listed →
 Region.lexHead md ops g l.length k listed = true → wpQuiet P ops C Lq l a →
 headQ P md ops C n (fun listed' a' => Region.seqB md ops g n listed' = true ∧ Lq a') l.length listed a
 | [], k, listed, a, _, _, hk, _, hB, h => by
  have : k = n := by simpa using hk
  subst this
  exact ⟨by simpa [Region.lexHead] using hB, h⟩
 | o :: l, k, listed, a, hmk, hl, hk, inv, hB, h => by
  have h0 : ops[k]? = some o := by simpa using (hl 0 (by simp)).symm
  simp only [List.length_cons, Region.lexHead, Bool.and_eq_true] at hB
  obtain ⟨⟨hr, hf⟩, hB'⟩ := hB
  have hkn : k < n := by simp only [List.length_cons] at hk; omega
  have hr' : k ∈ Region.ready md ops listed := by simpa using hr
  have hst : qOp P ops C k (wpQuiet P ops C Lq l) a := by unfold qOp; simp only [h0]; exact h
  obtain ⟨v, hy, hK⟩ := yieldsIn_of_qOp h0 hst
  exact headQ_first_from h0 (Region.noSelect_spec hsel) hs hc hn hmk hkn (fun listed' a' hL => seqB_ready hL.1) l.length listed a inv (Region.free_spec h0 hf) hr' hy
   (headQ_lex_from hsel hs hc hn l (k + 1) _ _ (by omega) (fun j hj => by have := hl (j + 1) (by simp; omega); simpa [Nat.add_assoc, Nat.add_comm 1 j] using this) (by simp only [List.length_cons] at hk; omega) (inv.set hr' hkn) hB' hK)
def moveTailB (ops : Array Oper) (n : Nat) : Bool :=
 Region.noSelect ops && decide (n < ops.size) && decide (0 < n) && sinkFrom .any ops 1 n && Region.chainB .any ops n &&
 (Region.ready .any ops (Array.replicate ops.size false)).contains 0 && Region.free .any ops (Array.replicate ops.size false) 0 &&
 Region.lexHead .any ops (ops.size - n) (n - 1) 1 ((Array.replicate ops.size false).setIfInBounds 0 true)
theorem wp_region_move_tail {id : Nat} {Q : Exit → Act → World → Prop} {a : Act} {w : World} {o0 : Oper} {l : List Oper} (n : Nat) (x : Operand) (hm : P.follows .mixedOrders = true) (ho : o0.op = .move x) (hg : o0.guard = none)
 (hB : moveTailB (o0 :: l).toArray n = true) (hQ : ∀ c a v w, Q (.panic c) (a.put o0.dst v) w → Q (.panic c) a w)
 (hC : C { w with drawn := w.drawn + 1 })
 (h : wpQuiet P (o0 :: l).toArray C (fun a' => ∀ w', C w' → wpList P (o0 :: l).toArray Q ((o0 :: l).drop n) a' w') (l.take (n - 1)) (a.put o0.dst (a.eval x))) : (Code.region id (o0 :: l).toArray true).wp P Q a w := by
 simp only [moveTailB, Bool.and_eq_true, decide_eq_true_eq] at hB
 obtain ⟨⟨⟨⟨⟨⟨⟨hsel, hn⟩, hn0⟩, hs⟩, hc⟩, hr0⟩, hf0⟩, hlex⟩ := hB
 have hr0' : 0 ∈ Region.ready .any (o0 :: l).toArray (Array.replicate (o0 :: l).toArray.size false) := by simpa using hr0
 have h00 : (o0 :: l).toArray[0]? = some o0 := by simp
 have hn' : n < (o0 :: l).length := by simpa using hn
 have htl : (l.take (n - 1)).length = n - 1 := by simp at hn' ⊢; omega
 have hdl : ((o0 :: l).drop n).length = (o0 :: l).toArray.size - n := by simp
 have inv0 : HeadInv .any (o0 :: l).toArray n (Array.replicate (o0 :: l).toArray.size false) :=
  ⟨by simp, fun j oj _ hl => (by rw [getD_replicate_false] at hl; cases hl), fun t _ ht => getD_in (by simpa using ht) (getD_replicate_false _ _)⟩
 have H := headQ_lex_from (md := .any) (C := C) (g := (o0 :: l).toArray.size - n) hsel hs hc hn (l.take (n - 1)) 1 _ (a.put o0.dst (a.eval x)) (Nat.le_refl _) (fun j hj => by
  have hj' : j < n - 1 := by rw [htl] at hj; exact hj
  simp [hj', Nat.add_comm 1 j]) (by omega) (inv0.set hr0' hn0) (by rw [htl]; exact hlex) h
 refine wp_region_any hm ?_
 have H2 := any_of_headQ (Q' := Q) (g := (o0 :: l).toArray.size - n) (fun listed a' w' hw' hL => by
  have := wpAny_of_seq (md := .any) (Q' := Q) ((o0 :: l).drop n) n listed a' w' (fun j => by simp [List.getElem?_drop]) (by rw [hdl]; exact hL.1) (hL.2 w' hw')
  rwa [hdl] at this) _ _ _ _ hC H
 rw [htl, show n - 1 + ((o0 :: l).toArray.size - n) = (o0 :: l).toArray.size - 1 by omega] at H2
 have hy : Yields P (o0 :: l).toArray o0 (a.eval x) a := .inl ⟨by simp [Region.wanted, hg], fun w => BigFrame.run_move x ho w⟩
 have := wpAny_first (md := .any) (Q := Q) h00 (Region.noSelect_spec hsel) (fun c a' w' hp => hQ c a' _ w' hp) ((o0 :: l).toArray.size - 1) _ a _ (Region.free_spec h00 hf0) hr0' hy H2
 rwa [show (o0 :: l).toArray.size - 1 + 1 = (o0 :: l).toArray.size by omega] at this
theorem wp_region_move_later {id : Nat} {Q : Exit → Act → World → Prop} {a : Act} {w : World} {o0 : Oper} {l : List Oper} (B n : Nat) (x : Operand) (hm : P.follows .mixedOrders = true) (ho : o0.op = .move x) (hg : o0.guard = none)
 (hB : moveTailB (o0 :: l).toArray n = true) (hQ : ∀ c a v w, Q (.panic c) (a.put o0.dst v) w → Q (.panic c) a w)
 (h : wpQuiet P (o0 :: l).toArray (fun w' => ∃ s : Later B w, w' = s.val) (fun a' => ∀ w', (∃ s : Later B w, w' = s.val) → wpList P (o0 :: l).toArray Q ((o0 :: l).drop n) a' w') (l.take (n - 1)) (a.put o0.dst (a.eval x))) : (Code.region id (o0 :: l).toArray true).wp P Q a w :=
 wp_region_move_tail (C := fun w' => ∃ s : Later B w, w' = s.val) n x hm ho hg hB hQ ⟨⟨_, Below.drew (Below.refl B w)⟩, rfl⟩ h
end
end Go.Proofs.YtfpcelmekfdafaaGreatDoor.Rg
namespace Go.Proofs.YtfpcelmekfdafaaGreatDoor.Sha
open Go.RowKit Go.Proofs.YtfpcelmekfdafaaGreatDoor.Cl Go.Proofs.YtfpcelmekfdafaaGreatDoor.Ws
theorem infoU64 : (Tryz.prog.info? 46).map (fun i => (i.zero, i.size, i.bytes)) = some (some (.int .u64 0), 1, 8) := by kernel_rfl
theorem part_next (W : Nat) (blk : List UInt8) (k j : Nat) (b : UInt8) (hj : j < 8) (hb : k * (W / 8) + j < blk.length) (hb' : blk[k * (W / 8) + j] = b) :
 IntKind.u64.wrap (IntKind.u64.wrap ((part W blk k j : Int) * 256) + IntKind.u64.wrap (b.toNat : Int)) = ((part W blk k (j + 1) : Nat) : Int) := by
 have hp := part_lt W blk k j
 have hm : 256 ^ j ≤ 256 ^ 7 := Nat.pow_le_pow_right (by decide) (by omega)
 have h7 : (256 : Nat) ^ 7 = 72057594037927936 := by decide
 have h2 := b.toNat_lt
 rw [part_succ W blk k j hb, hb', IntKind.wrap_u64, IntKind.wrap_u64, IntKind.wrap_u64]
 omega
theorem sched_succ16 (W : Nat) (blk : List UInt8) (k : Nat) (h : k < 16) : sched W blk (k + 1) = sched W blk k ++ [part W blk k (W / 8)] := by simp [sched, h, part]
theorem sched_succ (W : Nat) (blk : List UInt8) (k : Nat) (h : ¬ k < 16) : sched W blk (k + 1) = sched W blk k ++ [(sg1 W (nth (sched W blk k) (k - 2)) + nth (sched W blk k) (k - 7) + sg0 W (nth (sched W blk k) (k - 15)) + nth (sched W blk k) (k - 16)) % 2 ^ W] := by simp [sched, h]
theorem below_of_draws {w w' : World} (h : ∃ k, w' = w.drewN k) : Below w.heap.size w w' := by
 obtain ⟨k, rfl⟩ := h
 exact (Below.refl _ _).drewN' k
theorem refthree64b (w : World) (x : Nat) (a b c : Int) (hx : x < 18446744073709551616) (ha : 0 < a) (ha2 : a < 64) (hb : 0 < b) (hb2 : b < 64) (hc0 : 0 < c) (hc1 : c < 64) : Calls Tryz.prog 105 #[.int .u64 x, .int .i64 a, .int .i64 b, .int .i64 c, .int .i64 64, .bool false] w fun e w' => e = .returned (.int .u64 (three 64 x a.toNat b.toNat c.toNat : Nat)) ∧ Below w.heap.size w w' :=
 (refthree64 w x a b c hx ha ha2 hb hb2 hc0 hc1).mono fun _ _ ⟨h1, h2⟩ => ⟨h1, below_of_draws h2⟩
theorem mixed_take (W : Nat) (blk : List UInt8) (h : List Nat) (j : Nat) (hj : j < 8) : (mixed W blk h).take (j + 1) = (mixed W blk h).take j ++ [(nth h j + nth (mixAll W blk h) j) % 2 ^ W] := by
 rw [List.take_succ_eq_append_getElem (by rw [mixed_length]; exact hj)]
 simp [mixed]
attribute [local go_sem] wrap_add64
end Go.Proofs.YtfpcelmekfdafaaGreatDoor.Sha
namespace Go.Proofs.YtfpcelmekfdafaaGreatDoor.Sha
open Go.RowKit Go.Proofs.YtfpcelmekfdafaaGreatDoor.Cl Go.Proofs.YtfpcelmekfdafaaGreatDoor.Ws
attribute [local go_sem] wrap_add64
end Go.Proofs.YtfpcelmekfdafaaGreatDoor.Sha
namespace Go.Proofs.YtfpcelmekfdafaaGreatDoor.Sha
open Go.RowKit Go.Proofs.YtfpcelmekfdafaaGreatDoor.Cl Go.Proofs.YtfpcelmekfdafaaGreatDoor.Ws
attribute [local go_sem] wrap_add64
set_option maxRecDepth 100000 in
theorem refblock64 (w : World) (v : Value) (hh : List Nat) (s : ByteArray) (hs : s.size = 128) (hV : Words w v hh) (hl : hh.length = 8) (hlt : ∀ i, nth hh i < 18446744073709551616) :
 Calls Tryz.prog 94 #[v, .string s, .int .i64 64] w fun e w' => ∃ v', e = .returned v' ∧ Words w' v' (mixed 64 s.data.toList hh) ∧ Below w.heap.size w w' := by
 have hlen : s.data.toList.length = 128 := by simpa using hs
 obtain ⟨i0, hi, hz0, hz1, hz2⟩ := info_parts infoU64
 obtain ⟨vb, vc, rfl, hvc, hvb, hvx⟩ := hV
 rw [hl] at hvx hvc ⊢
 have HVX := ϕ hvx
 have HLT := ϕ hlt
 have HHL := ϕ hl
 clear hvx hlt hl
 go_enter Tryz.func94, Tryz.ntmps94
 go_wp2_with fail
 have HO0 := ϕ (show Own (w.alloc (.cells #[] 46)) w.heap.size 46 w.heap.size 0 (sched 64 s.data.toList 0) from Own.new w 46 w.heap.size [] (Nat.le_refl _) (by decide))
 have HB0 := ϕ (show Below w.heap.size w (w.alloc (.cells #[] 46)) from (Below.refl _ _).alloc (Nat.le_refl _) _)
 go_loopw [9, 10] (fun v9 i wr => ∃ k g cap : Nat, k ≤ 80 ∧ i = .int .i64 k ∧ v9 = .slice (some ⟨g, 0, none⟩) k cap ∧ Own wr w.heap.size 46 g cap (sched 64 s.data.toList k) ∧ Below w.heap.size w wr) (fun _ i _ => 80 - (intOf i).toNat)
 case atStart => exact ⟨0, w.heap.size, 0, by decide, rfl, rfl, HO0.out, HB0.out⟩
 case round =>
  obtain ⟨k, g, cap, hk, rfl, rfl, hO, hb⟩ := hrel
  have HO := ϕ hO
  have HB := ϕ hb
  have hcap : k ≤ cap := by have := hO.cap; rwa [sched_length] at this
  clear hO hb HO0 HB0
  by_cases hlt : k < 80
  · have hd : decide ((k : Int) < 80) = true := by simp; omega
    by_cases h16 : k < 16
    · have hd2 : decide ((k : Int) < 16) = true := by simp; omega
      go_wp2_with fail
      clear hd hd2
      go_loop [11, 12] (fun x i => ∃ j : Nat, j ≤ 8 ∧ i = .int .i64 j ∧ x = .int .u64 (part 64 s.data.toList k j : Nat)) (fun _ i => 8 - (intOf i).toNat)
      case atStart => exact ⟨0, by decide, rfl, rfl⟩
      case round =>
       obtain ⟨j, hj, rfl, rfl⟩ := hrel
       by_cases hjn : j < 8
       · have hi0 : 0 ≤ (k : Int) * 8 + j := by omega
         have hi1 : (k : Int) * 8 + j < 128 := by omega
         go_wp2_with fail
         go_round
         case rel =>
          have hb : k * (64 / 8) + j < s.data.toList.length := by rw [hlen]; omega
          have hv := part_next 64 s.data.toList k j s[k * 8 + j] (by omega) hb rfl
          exact ⟨j + 1, by omega, by go_num, congrArg (Value.int .u64) hv⟩
         case measure => simp [intOf]; omega
       · obtain rfl : j = 8 := by omega
         have hy := ϕ (show part 64 s.data.toList k 8 = part 64 s.data.toList k 8 from rfl)
         have hrow := ϕ (HO.out.row (sched_length 64 s.data.toList k))
         go_wp2_with (first
          | (go_at_call 106; refine (refcut64y _ _ _ hy.out).mono ?_; rintro e w2 ⟨rfl, rfl⟩)
          | (at_builtin; refine wpList_append_own _ rfl _ _ 117 rfl w.heap.size 46 i0 (.int .u64 0) 1 8 Tryz.underlying117 hi hz0 hz1 hz2 rfl (by decide) _ _ _ rfl (hrow.out.alloc _) ⟨wr.heap.size, 0, none⟩ 1 1 [.int .u64 (part 64 s.data.toList k 8 : Nat)] rfl rfl (one_src _ _ _) (by intro u hu; simp at hu; subst hu; rfl) (by unfold maxLen; omega) (by omega) (by have := HB.out.size; simp; omega) ?_
             intro v' w3 hown' hgrow _
             obtain ⟨g', cap', rfl, hO'⟩ := append_at (sched_length 64 s.data.toList k) hown'
             rw [← sched_succ16 _ _ _ h16] at hO'
             have HO' := ϕ hO'
             have HB' := ϕ ((HB.out.alloc (by have := HB.out.size; omega) _).grown hgrow (by have := HB.out.size; simp; omega) (fun k hk => (hrow.out.lt k hk).1))
             clear hO' hown' hgrow))
         go_roundw
         case rel => exact ⟨k + 1, g', cap', by omega, by go_num, rfl, HO'.out, HB'.out⟩
         case measure => simp [intOf]; omega
    · have hd2 : decide ((k : Int) < 16) = false := by simp; omega
      have hg := ϕ (show ∀ i, nth (sched 64 s.data.toList k) i < 18446744073709551616 from fun i => getD_lt (sched_lt 64 (by decide) s.data.toList k) (Nat.two_pow_pos 64) i)
      go_wp2_with fail
      clear hd hd2
      have f2 := HO.out.cell (k - 2) (by rw [sched_length]; omega)
      have f7 := HO.out.cell (k - 7) (by rw [sched_length]; omega)
      have f15 := HO.out.cell (k - 15) (by rw [sched_length]; omega)
      have f16 := HO.out.cell (k - 16) (by rw [sched_length]; omega)
      have i2 : (2 : Int) ≤ k ∧ (k : Int) - 2 < k := by omega
      have i7 : (7 : Int) ≤ k ∧ (k : Int) - 7 < k := by omega
      have i15 : (15 : Int) ≤ k ∧ (k : Int) - 15 < k := by omega
      have i16 : (16 : Int) ≤ k ∧ (k : Int) - 16 < k := by omega
      have h16' : 16 ≤ k := by omega
      go_quiet ((go_at_call 105; exact Calls.quiet_of (refthreeS64 _ _ _ _ _ (hg.out _) (by decide) (by decide) (by decide) (by decide) (by decide) (by decide))))
      clear f2 f7 f15 f16 i2 i7 i15 i16
      have hbq : Below wr.heap.size wr (wr.drewN nq) := (Below.refl _ _).drewN' nq
      generalize wr.drewN nq = wq at *
      have HOq := ϕ (HO.out.below hbq)
      have HBq := ϕ (HB.out.trans (hbq.mono HB.out.size))
      clear hbq
      have hrow := ϕ (HOq.out.row (sched_length 64 s.data.toList k))
      obtain ⟨y, hy⟩ : ∃ y, y = (sg1 64 (nth (sched 64 s.data.toList k) (k - 2)) + nth (sched 64 s.data.toList k) (k - 7) + sg0 64 (nth (sched 64 s.data.toList k) (k - 15)) + nth (sched 64 s.data.toList k) (k - 16)) % 2 ^ 64 := ⟨_, rfl⟩
      have Hsu := ϕ (show sched 64 s.data.toList (k + 1) = sched 64 s.data.toList k ++ [y] by rw [hy]; exact sched_succ _ _ _ h16)
      have Hy := ϕ hy
      clear hy
      go_wp2_with (first
       | (go_at_call 106; refine (refcut64y _ _ y (by rw [Hy.out]; simp only [sg0, sg1, Nat.reduceEqDiff, if_false, add64]; omega)).mono ?_; rintro e w2 ⟨rfl, rfl⟩)
       | (at_builtin; refine wpList_append_own _ rfl _ _ 117 rfl w.heap.size 46 i0 (.int .u64 0) 1 8 Tryz.underlying117 hi hz0 hz1 hz2 rfl (by decide) _ _ _ rfl (hrow.out.alloc _) ⟨wq.heap.size, 0, none⟩ 1 1 [.int .u64 (y : Nat)] rfl rfl (one_src _ _ _) (by intro u hu; simp at hu; subst hu; rfl) (by unfold maxLen; omega) (by omega) (by have := HBq.out.size; simp; omega) ?_
          intro v' w3 hown' hgrow _
          obtain ⟨g', cap', rfl, hO'⟩ := append_at (sched_length 64 s.data.toList k) hown'
          rw [← Hsu.out] at hO'
          have HO' := ϕ hO'
          have HB' := ϕ ((HBq.out.alloc (by have := HBq.out.size; omega) _).grown hgrow (by have := HBq.out.size; simp; omega) (fun k hk => (hrow.out.lt k hk).1))
          clear hO' hown' hgrow))
      go_roundw
      case rel => exact ⟨k + 1, g', cap', by omega, by go_num, rfl, HO'.out, HB'.out⟩
      case measure => simp [intOf]; omega
  · obtain rfl : k = 80 := by omega
    have HSch := ϕ (sched_length 64 s.data.toList 80)
    have HMX := ϕ (show ∀ i, i < 80 → nth (msg 64 s.data.toList) i = nth (sched 64 s.data.toList 80) i from fun i hi => by rw [msg64]; exact pad_get _ _ _ _ hi)
    generalize sched 64 s.data.toList 80 = ws at *
    have hsz := HB.out.size
    have HE := ϕ (show Own (wr.alloc (.cells #[] 46)) w.heap.size 46 wr.heap.size 0 [] from Own.new wr 46 w.heap.size [] hsz (by decide))
    have HBE := ϕ (HB.out.alloc hsz (.cells #[] 46))
    go_wp2_with (first
     | (at_builtin; refine wpList_append_own _ rfl _ _ 117 rfl w.heap.size 46 i0 (.int .u64 0) 1 8 Tryz.underlying117 hi hz0 hz1 hz2 rfl (by decide) _ _ _ rfl (HE.out.row rfl) ⟨vb, 0, none⟩ 8 vc (vals hh) rfl (by simp [vals, HHL.out]) (by
      intro j u hj
      have hj' : j < hh.length := by have := (List.getElem?_eq_some_iff.1 hj).1; simpa [vals] using this
      have hadd : (⟨vb, 0, none⟩ : Addr).add j = ⟨vb, j, none⟩ := by unfold Addr.add; split <;> simp_all
      rw [hadd, HBE.out.cell (p := ⟨vb, j, none⟩) hvb, HVX.out j (by rw [← HHL.out]; exact hj'), ← hj]
      simp [vals, nth, hj']) (by intro u hu; obtain ⟨x, _, rfl⟩ := List.mem_map.1 hu; rfl) (by unfold maxLen; omega) (by omega) (by simp; omega) ?_))
    intro v' w3 hown' hgrow _
    obtain ⟨g2, cap2, rfl, hO2⟩ := own_of_row HHL.out (by decide) hown'
    have hg2 := hO2.lt.1
    have HA := ϕ (hO2.at8 HHL.out)
    have HB3 := ϕ (HBE.out.grown hgrow (by simp; omega) (fun k hk => (World.ownsRow.lt (HE.out.row rfl) k hk).1))
    have HO3 := ϕ (show Own w3 w.heap.size 46 g cap ws from World.ownsRow.kept ((HO.out.below ((Below.refl _ _).alloc (Nat.le_refl _) (.cells #[] 46)))) hgrow (.inr (by have := HO.out.lt.2; intro e; simp [Value.ownBlock] at e; omega)))
    clear hO2 hown' hgrow
    go_wp2_with fail
    have hsz3 := HB3.out.size
    go_loopw [13, 14] (fun v13 i wr => ∃ k g2 cap2 : Nat, k ≤ 80 ∧ i = .int .i64 k ∧ v13 = .slice (some ⟨g2, 0, none⟩) 8 cap2 ∧ At8 wr g2 (mixTo 64 (msg 64 s.data.toList) hh k) ∧ Own wr w.heap.size 46 g cap ws ∧ Below w.heap.size w wr) (fun _ i _ => 80 - (intOf i).toNat)
    case atStart => exact ⟨0, g2, cap2, by decide, rfl, rfl, HA.out, HO3.out, HB3.out⟩
    case round =>
     clear hsz hsz3 hg2 hcap
     obtain ⟨k, g2, cap2, hk, rfl, rfl, hA, hO, hb⟩ := hrel
     have HA4 := ϕ hA
     have HO4 := ϕ hO
     have HB4 := ϕ hb
     clear hA hO hb HA HO3 HB3 HE HBE HO HB
     by_cases hlt : k < 80
     · have hd : decide ((k : Int) < 80) = true := by simp; omega
       have hg := mixTo_lt 64 (msg 64 s.data.toList) hh HLT.out k
       have HEq := ϕ (show mixTo 64 (msg 64 s.data.toList) hh (k + 1) = mixRound 64 (mixTo 64 (msg 64 s.data.toList) hh k) (kw 64 k) (nth ws k) by rw [← HMX.out k hlt]; rfl)
       generalize mixTo 64 (msg 64 s.data.toList) hh k = xs at *
       have Hg := ϕ (show ∀ i, nth xs i < 18446744073709551616 from hg)
       clear hg
       go_wp2_with fail
       clear hd
       have x0 := HA4.out.2 0 (by decide)
       have x1 := HA4.out.2 1 (by decide)
       have x2 := HA4.out.2 2 (by decide)
       have x4 := HA4.out.2 4 (by decide)
       have x5 := HA4.out.2 5 (by decide)
       have x6 := HA4.out.2 6 (by decide)
       go_quiet (fail)
       clear x0 x1 x2 x4 x5 x6
       have hbq : Below wr.heap.size wr (wr.drewN nq) := (Below.refl _ _).drewN' nq
       generalize wr.drewN nq = wq at *
       have HAq := ϕ (HA4.out.below hbq)
       have HOq := ϕ (HO4.out.below hbq)
       have HBq := ϕ (HB4.out.trans (hbq.mono HB4.out.size))
       clear hbq
       have b0 : ∀ i, nth xs i < 18446744073709551616 := fun i => Nat.lt_of_lt_of_le (Hg.out i) (by decide)
       have HB64 := ϕ b0
       clear b0
       have tokA := True.intro
       have HRun := ϕ (Below.refl wq.heap.size wq)
       go_wp2_with (first
        | (have _t := tokA; go_at_call 105; refine (refthree64b _ _ _ _ _ (HB64.out _) (by decide) (by decide) (by decide) (by decide) (by decide) (by decide)).mono ?_; rintro e wz ⟨rfl, hbz⟩; skip; clear _t; have HRun := ϕ (HRun.out.trans (hbz.mono HRun.out.size)); clear hbz)
        | (go_at_call 107; refine (refk _ k (by omega)).mono ?_; rintro e wz ⟨rfl, hbz⟩; skip; clear tokA; have tokB := True.intro; have HRun := ϕ (HRun.out.trans (hbz.mono HRun.out.size)); clear hbz)
        )
       have HA5 := ϕ (HAq.out.below HRun.out)
       have HO5 := ϕ (HOq.out.below HRun.out)
       have HB5 := ϕ (HBq.out.trans (HRun.out.mono HBq.out.size))
       have x7 := HA5.out.2 7 (by decide)
       have fk := HO5.out.cell k (by rw [HSch.out]; exact hlt)
       have ik : (k : Int) < 80 := by omega
       have hsg : IntKind.u64.signed = false := rfl
       have e1 := ch_e1 (nth xs 4) (nth xs 5) (HB64.out 4) (HB64.out 5)
       have e2 := not_u64 (nth xs 4) (HB64.out 4)
       have e3 := ch_e3 (nth xs 4) (nth xs 6) (HB64.out 6)
       have e4 := ch_e4 (nth xs 4) (nth xs 5) (nth xs 6) (HB64.out 4)
       have e5 := ch_e1 (nth xs 0) (nth xs 1) (HB64.out 0) (HB64.out 1)
       have e6 := ch_e1 (nth xs 0) (nth xs 2) (HB64.out 0) (HB64.out 2)
       have e7 := ch_e1 (nth xs 1) (nth xs 2) (HB64.out 1) (HB64.out 2)
       have e8 := mj_e1 (nth xs 0) (nth xs 1) (nth xs 2) (HB64.out 0)
       have e9 := mj_e2 (nth xs 0) (nth xs 1) (nth xs 2) (HB64.out 0) (HB64.out 1)
       obtain ⟨y1, hy1⟩ : ∃ y1, y1 = add64 (add64 (add64 (add64 (nth xs 7) (three 64 (nth xs 4) 14 18 41)) (ch (nth xs 4) (nth xs 5) (nth xs 6))) (nth wordsL k)) (nth ws k) := ⟨_, rfl⟩
       obtain ⟨y2, hy2⟩ : ∃ y2, y2 = add64 (three 64 (nth xs 0) 28 34 39) (mj (nth xs 0) (nth xs 1) (nth xs 2)) := ⟨_, rfl⟩
       have HY1 := ϕ hy1
       have HY2 := ϕ hy2
       clear hy1 hy2
       go_quiet ((go_at_call 106; exact Calls.quiet_of_same ((refcut64y _ _ y1 HY1.out).mono fun _ _ ⟨h1, h2⟩ => ⟨h1, h2.symm⟩)))
       clear x7 fk ik e1 e2 e3 e4 hsg
       have hbq : Below wz.heap.size wz (wz.drewN nq) := (Below.refl _ _).drewN' nq
       generalize wz.drewN nq = wu at *
       have HA6 := ϕ (HA5.out.below hbq)
       have HO6 := ϕ (HO5.out.below hbq)
       have HB6 := ϕ (HB5.out.trans (hbq.mono HB5.out.size))
       clear hbq
       go_wp2_with (go_at_call 106; refine (refcut64y _ _ y2 HY2.out).mono ?_; rintro e wy ⟨rfl, rfl⟩)
       clear e5 e6 e7 e8 e9
       have x3 := fun s : Rg.Later wu.heap.size wu => (s.cell g2 3 HA6.out.1).trans (HA6.out.2 3 (by decide))
       obtain ⟨z0, hz0'⟩ : ∃ z0, z0 = (add64 (add64 (add64 (add64 (nth xs 7) (three 64 (nth xs 4) 14 18 41)) (ch (nth xs 4) (nth xs 5) (nth xs 6))) (nth wordsL k)) (nth ws k) + add64 (three 64 (nth xs 0) 28 34 39) (mj (nth xs 0) (nth xs 1) (nth xs 2))) % 2 ^ 64 := ⟨_, rfl⟩
       obtain ⟨z4, hz4'⟩ : ∃ z4, z4 = (nth xs 3 + add64 (add64 (add64 (add64 (nth xs 7) (three 64 (nth xs 4) 14 18 41)) (ch (nth xs 4) (nth xs 5) (nth xs 6))) (nth wordsL k)) (nth ws k)) % 2 ^ 64 := ⟨_, rfl⟩
       have HZ0 := ϕ hz0'
       have HZ4 := ϕ hz4'
       have HEq2 := ϕ (show mixTo 64 (msg 64 s.data.toList) hh (k + 1) = [z0, nth xs 0, nth xs 1, nth xs 2, z4, nth xs 4, nth xs 5, nth xs 6] by rw [HEq.out, hz0', hz4']; rfl)
       clear hz0' hz4'
       refine Rg.wp_region_later wu.heap.size 18 (by kernel_rfl) (by kernel_rfl) ?_
       simp only [List.take_succ_cons, List.take_zero, List.drop_succ_cons, List.drop_zero]
       have tokC := True.intro
       repeat (go_big_quiet_step (first
        | (go_at_call_of 106 (Value.int .u64 ((add64 y1 y2 : Nat) : Int)); exact Rg.later_same (refcut64y _ _ z0 (by rw [HZ0.out, HY1.out, HY2.out]; rfl)))
        | (go_at_call_of 106 (Value.int .u64 ((add64 (nth xs 3) y1 : Nat) : Int)); exact Rg.later_same (refcut64y _ _ z4 (by rw [HZ4.out, HY1.out]; rfl)))))
       refine wpQuiet_nil ?_
       rintro _ ⟨s8, rfl⟩
       clear x3
       have hs8 := s8.is.size
       have h8 := HB6.out.size
       go_wp2_with fail
       have hAt := ϕ (show At8 (s8.val.alloc (.cells (u64s [z0, nth xs 0, nth xs 1, nth xs 2, z4, nth xs 4, nth xs 5, nth xs 6]) 46)) s8.val.heap.size (mixTo 64 (msg 64 s.data.toList) hh (k + 1)) by
        rw [HEq2.out]
        exact ⟨by simp, fun j hj => Row.cell (show Row _ _ 46 _ from Rg.Blk.new _ _ _) j hj⟩)
       have HO8 := ϕ ((HO6.out.below s8.is).below ((Below.refl _ _).alloc (Nat.le_refl _) (.cells (u64s [z0, nth xs 0, nth xs 1, nth xs 2, z4, nth xs 4, nth xs 5, nth xs 6]) 46)))
       have HB8 := ϕ ((HB6.out.trans (s8.is.mono h8)).alloc (by omega) (.cells (u64s [z0, nth xs 0, nth xs 1, nth xs 2, z4, nth xs 4, nth xs 5, nth xs 6]) 46))
       go_roundw
       case rel =>
        first
         | exact ⟨k + 1, s8.val.heap.size, 8, by omega, by go_num, rfl, hAt.out, HO8.out, HB8.out⟩
         | ((repeat apply Exists.intro); refine ⟨?_, rfl⟩; exact ⟨k + 1, s8.val.heap.size, 8, by omega, by go_num, rfl, hAt.out, HO8.out, HB8.out⟩)
       case measure => simp [intOf]; omega
     · obtain rfl : k = 80 := by omega
       go_wp2_with fail
       have hsz4 := HB4.out.size
       have hg2l := HA4.out.1
       obtain ⟨wb, hwb⟩ : ∃ wb, wb = wr.heap.size := ⟨_, rfl⟩
       have HWB := ϕ hwb
       clear hwb
       have HO9 := ϕ (show Own (wr.alloc (.cells #[] 46)) wb 46 wr.heap.size 0 ((mixed 64 s.data.toList hh).take 0) from Own.new wr 46 wb [] (by rw [HWB.out]; exact Nat.le_refl _) (by decide))
       have HB9 := ϕ (HB4.out.alloc hsz4 (.cells #[] 46))
       have HA9 := ϕ (show At8 (wr.alloc (.cells #[] 46)) g2 (mixAll 64 s.data.toList hh) by rw [mixAll64]; exact HA4.out.below ((Below.refl _ _).alloc (Nat.le_refl _) _))
       have HTK := ϕ (fun j hj => mixed_take 64 s.data.toList hh j hj)
       have HML := ϕ (mixed_length 64 s.data.toList hh)
       obtain ⟨mx, hmx⟩ : ∃ mx, mixed 64 s.data.toList hh = mx := ⟨_, rfl⟩
       rw [hmx] at HO9 HTK HML
       have HMX2 := ϕ hmx
       clear hmx
       generalize mixAll 64 s.data.toList hh = xa at *
       have hgb : g2 < wb := by rw [HWB.out]; exact hg2l
       have hwb0 : w.heap.size ≤ wb := by rw [HWB.out]; exact hsz4
       clear hk hsz4 hg2l
       go_loopw [26, 212] (fun v26 i wr => ∃ j g3 cap3 : Nat, j ≤ 8 ∧ i = .int .i64 j ∧ v26 = .slice (some ⟨g3, 0, none⟩) j cap3 ∧ Own wr wb 46 g3 cap3 (mx.take j) ∧ wb ≤ wr.heap.size ∧ At8 wr g2 xa ∧ Below w.heap.size w wr) (fun _ i _ => 8 - (intOf i).toNat)
       case atStart => exact ⟨0, wr.heap.size, 0, by decide, rfl, rfl, HO9.out, by rw [HWB.out]; simp, HA9.out, HB9.out⟩
       case round =>
        obtain ⟨j, g3, cap3, hj, rfl, rfl, hO, hwbr, hA, hb⟩ := hrel
        have HO10 := ϕ hO
        have HA10 := ϕ hA
        have HB10 := ϕ hb
        have hszb := hb.size
        have hjl : (mx.take j).length = j := by rw [List.length_take, HML.out]; omega
        have HJL := ϕ hjl
        clear hO hA hb hjl
        by_cases hj8 : j < 8
        · have hd : decide ((j : Int) < 8) = true := by simp; omega
          go_wp2_with fail
          clear hd
          have f1 := fun s : Rg.Later wr.heap.size wr => ((s.cell vb j (by omega)).trans (HB10.out.cell (p := ⟨vb, j, none⟩) hvb)).trans (HVX.out j hj8)
          have f2 := fun s : Rg.Later wr.heap.size wr => (s.cell g2 j HA10.out.1).trans (HA10.out.2 j hj8)
          have ij : (j : Int) < 8 := by omega
          obtain ⟨y, hy⟩ : ∃ y, y = (nth hh j + nth xa j) % 2 ^ 64 := ⟨_, rfl⟩
          have HYY := ϕ hy
          have HTJ := ϕ (show mx.take (j + 1) = mx.take j ++ [y] by rw [hy]; exact HTK.out j hj8)
          clear hy
          refine Rg.wp_region_move_later wr.heap.size 12 _ (by kernel_rfl) rfl rfl (by kernel_rfl) (fun _ _ _ _ h => h) ?_
          simp only [Nat.reduceSub, List.take_succ_cons, List.take_zero, List.drop_succ_cons, List.drop_zero, Act.put, Act.eval, List.setIfInBounds_toArray, List.set_cons_succ, List.set_cons_zero, Array.getD_eq_getD_getElem?, List.getElem?_toArray, List.getElem?_cons_succ, List.getElem?_cons_zero, Option.getD_some]
          repeat (go_big_quiet_step ((go_at_call 106; exact Rg.later_same (refcut64y _ _ y (by rw [HYY.out]; rfl)))))
          refine wpQuiet_nil ?_
          rintro _ ⟨s11, rfl⟩
          clear f1 f2
          have hs11 := s11.is.size
          have hrow := ϕ ((HO10.out.below s11.is).row HJL.out)
          go_wp2_with ((at_builtin; refine wpList_append_own _ rfl _ _ 117 rfl wb 46 i0 (.int .u64 0) 1 8 Tryz.underlying117 hi hz0 hz1 hz2 rfl (by decide) _ _ _ rfl (hrow.out.alloc _) ⟨s11.val.heap.size, 0, none⟩ 1 1 [.int .u64 (y : Nat)] rfl rfl (one_src _ _ _) (by intro u hu; simp at hu; subst hu; rfl) (by unfold maxLen; omega) (by omega) (by simp; omega) ?_))
          intro v' w12 hown' hgrow _
          obtain ⟨g', cap', rfl, hO'⟩ := append_at HJL.out hown'
          rw [← HTJ.out] at hO'
          have HO' := ϕ hO'
          have HWB12 := ϕ (show wb ≤ w12.heap.size by have := hgrow.size; simp at this; omega)
          have HA12 := ϕ (show At8 w12 g2 xa from At8.grown ((HA10.out.below s11.is).below ((Below.refl _ _).alloc (Nat.le_refl _) _)) hgrow (by have h1 : wb ≤ g3 := (World.ownsRow.lt hrow.out g3 rfl).1; intro e; have e2 : g2 = g3 := Option.some.inj e; omega))
          have HB' := ϕ (((HB10.out.trans (s11.is.mono hszb)).alloc (by omega) _).grown hgrow (by simp; omega) (fun k hk => Nat.le_trans hwb0 (World.ownsRow.lt hrow.out k hk).1))
          go_wp2_with fail
          go_roundw
          case rel =>
           first
            | exact ⟨j + 1, g', cap', by omega, by go_num, rfl, HO'.out, HWB12.out, HA12.out, HB'.out⟩
            | ((repeat apply Exists.intro); refine ⟨?_, rfl⟩; exact ⟨j + 1, g', cap', by omega, by go_num, rfl, HO'.out, HWB12.out, HA12.out, HB'.out⟩)
          case measure => simp [intOf]; omega
        · obtain rfl : j = 8 := by omega
          go_wp2_with fail
          go_ret
          refine ⟨_, rfl, ?_, HB10.out⟩
          have := HO10.out.words
          rw [List.take_of_length_le (by rw [HML.out]; exact Nat.le_refl _), HML.out] at this
          rw [HMX2.out]
          exact this
end Go.Proofs.YtfpcelmekfdafaaGreatDoor.Sha
namespace Go.Proofs.YtfpcelmekfdafaaGreatDoor.Bu
open Go.RowKit
theorem sizeB : (Tryz.prog.info? 129).map (·.size) = some 2 := by kernel_rfl
theorem liesB : liesAt Tryz.prog Tryz.prog.depth 129 (2 / Tryz.prog.cellsOf 129) 0 129 1 = true := by kernel_rfl
theorem infoByte : (Tryz.prog.info? 5).map (fun i => (i.zero, i.size, i.bytes)) = some (some (.int .u8 0), 1, 1) := by kernel_rfl
set_option maxRecDepth 100000 in
theorem copyCheck_used (b : Nat) (w : World) (h0 : w.cell? ⟨b, 0, none⟩ = some (.pointer (some ⟨b, 0, none⟩))) :
 Calls Tryz.prog 113 #[.pointer (some ⟨b, 0, none⟩)] w fun e w' => e = .returned (.tuple #[]) ∧ w' = w := by
 obtain ⟨j, hj, _⟩ := Option.map_eq_some_iff.1 sizeB
 go_enter Tryz.func113, Tryz.ntmps113
 go_wp2
 rw [Lib.run_neq_ptr_same w _ Tryz.underlying127 hj]
 go_wp2
 go_end0
 exact ⟨rfl, rfl⟩
set_option maxRecDepth 100000 in
theorem copyCheck_fresh (b : Nat) (w : World) (h0 : w.cell? ⟨b, 0, none⟩ = some (.pointer none)) (hsh : w.shape? b = some (129, 2)) (hfz : w.frozen? ⟨b, 0, none⟩ = false) :
 Calls Tryz.prog 113 #[.pointer (some ⟨b, 0, none⟩)] w fun e w' => e = .returned (.tuple #[]) ∧ w' = w.setCell ⟨b, 0, none⟩ (.pointer (some ⟨b, 0, none⟩)) := by
 obtain ⟨j, hj, hjs⟩ := Option.map_eq_some_iff.1 sizeB
 go_enter Tryz.func113, Tryz.ntmps113
 go_wp2
 rw [Lib.run_to_unsafe w ⟨b, 0, none⟩ Tryz.underlying127 Tryz.underlying153 hj (by rw [hjs]; decide) hsh (Nat.zero_lt_succ 1)]
 simp only [Result.andThen]
 rw [Oper.upon_value]
 go_wp2
 rw [run_callFunc_extern Tryz.func121 (by kernel_rfl) (by kernel_rfl) (by kernel_rfl) (e := Extern.AbiNoEscape.same) (by kernel_rfl)]
 rw [Lib.run_noEscape]
 simp only [Result.andThen]
 rw [Oper.upon_value]
 go_wp2
 rw [Lib.run_from_unsafe w ⟨b, 0, none⟩ Tryz.underlying153 Tryz.underlying127 hj hsh liesB]
 simp only [Result.andThen]
 rw [Oper.upon_value]
 go_wp2
 go_end0
 exact ⟨rfl, rfl⟩
theorem copyCheck (B b : Nat) (bs : List Value) (w : World) (h : Lib.IsBuilder 129 5 B b bs w) :
 Calls Tryz.prog 113 #[.pointer (some ⟨b, 0, none⟩)] w fun e w' => e = .returned (.tuple #[]) ∧ (Lib.BuilderAt 129 5 B b (.pointer (some ⟨b, 0, none⟩)) bs w' ∧ Below B w w') := by
 rcases h with h | h
 · refine (copyCheck_fresh b w h.cell0 h.shape h.frozen0).mono ?_
   rintro e w' ⟨rfl, rfl⟩
   exact ⟨rfl, h.used _, (Below.refl B w).setCell (p := ⟨b, 0, none⟩) h.1 _⟩
 · refine (copyCheck_used b w h.cell0).mono ?_
   rintro e w' ⟨rfl, rfl⟩
   exact ⟨rfl, h, Below.refl B _⟩
set_option maxRecDepth 100000 in
theorem writeByte (B b : Nat) (bs : List Value) (c : Int) (w : World) (h : Lib.IsBuilder 129 5 B b bs w) (hlen : bs.length + 1 ≤ 140737488355328) (hBw : B ≤ w.heap.size) :
 Calls Tryz.prog 101 #[.pointer (some ⟨b, 0, none⟩), .int .u8 c] w fun e w' => e = .returned .nilIface ∧ (Lib.BuilderAt 129 5 B b (.pointer (some ⟨b, 0, none⟩)) (bs ++ [.int .u8 c]) w' ∧ Below B w w') := by
 obtain ⟨i0, hi, hz0, hz1, hz2⟩ := info_parts infoByte
 go_enter Tryz.func101, Tryz.ntmps101
 go_wp2_with (go_at_call 113; refine (copyCheck B b bs _ h).mono ?_)
 rintro e w1 ⟨rfl, h1, hb1⟩
 obtain ⟨hB, v, hbk, hown, hne⟩ := h1
 have c0 : w1.cell? ⟨b, 0, none⟩ = some (.pointer (some ⟨b, 0, none⟩)) := by rw [Lib.cell_of_heap hbk]; rfl
 have c1 : w1.cell? ⟨b, 1, none⟩ = some v := by rw [Lib.cell_of_heap hbk]; rfl
 go_wp2_with (at_builtin; refine wpList_append_own _ rfl _ _ 25 rfl B 5 i0 (.int .u8 0) 1 1 Tryz.underlying25 hi hz0 hz1 hz2 rfl (by decide) _ _ _ rfl (hown.alloc _) ⟨w1.heap.size, 0, none⟩ 1 1 [.int .u8 c] rfl rfl ?c1 ?c2 ?c3 ?c4 ?c5 ?_)
 case c1 =>
  intro j u hj
  match j, hj with
  | 0, hj => simp at hj; subst hj; simp [Addr.add]
 case c2 => intro u hu; simp at hu; subst hu; rfl
 case c3 => unfold maxLen; omega
 case c4 => omega
 case c5 => have := hb1.size; simp; omega
 intro v' w2 hown' hgrow _
 have hlt : b < w1.heap.size := by
  rcases Nat.lt_or_ge b w1.heap.size with h' | h'
  · exact h'
  · simp [Array.getElem?_eq_none h'] at hbk
 have hb2 : w2.heap[b]? = some (.cells #[.pointer (some ⟨b, 0, none⟩), v] 129 (0, 0)) := by
  rw [hgrow.block b (by simp; omega) (fun e => hne e.symm), Lib.alloc_old w1 _ b hlt]
  exact hbk
 have d0 : w2.cell? ⟨b, 0, none⟩ = some (.pointer (some ⟨b, 0, none⟩)) := by rw [Lib.cell_of_heap hb2]; rfl
 have d1 : w2.cell? ⟨b, 1, none⟩ = some v := by rw [Lib.cell_of_heap hb2]; rfl
 have f1 : w2.frozen? ⟨b, 1, none⟩ = false := Lib.frozen_of_heap hb2 1
 obtain ⟨g, cap, rfl⟩ : ∃ g cap, v' = .slice (some ⟨g, 0, none⟩) (bs.length + 1) cap := by
  rcases hown'.2 with ⟨_, h0⟩ | ⟨g, cap, cur, hv, _⟩
  · omega
  · exact ⟨g, cap, hv⟩
 go_wp2
 go_ret
 refine ⟨rfl, ?_, ?_⟩
 · exact Lib.BuilderAt.put (T := 129) (e := 5) hB hb2 (bs' := bs ++ [.int .u8 c]) (by simpa using hown') (by decide)
 · exact ((hb1.alloc (by have := hb1.size; omega) _).grown hgrow (by have := hb1.size; simp; omega) (fun k hk => (hown.lt k hk).1)).setCell (p := ⟨b, 1, none⟩) hB _
/-- a builder just made -/
theorem fresh (w : World) : Lib.IsBuilder 129 5 w.heap.size w.heap.size [] (w.alloc (.cells #[.pointer none, .slice none 0 0] 129)) :=
 .inl ⟨Nat.le_refl _, _, heap_alloc_new _ _, World.ownsRow_nil _ _ _ _, by simp [Value.ownBlock]⟩
end Go.Proofs.YtfpcelmekfdafaaGreatDoor.Bu
namespace Go.Proofs.YtfpcelmekfdafaaGreatDoor.Jo
open Go.RowKit
/-- the bytes of all parts; the name is not opened by unification -/
@[irreducible] def joined (xs : List ByteArray) : ByteArray := ⟨(xs.flatMap fun x => x.data.toList).toArray⟩
theorem joined_list (xs : List ByteArray) : (joined xs).data.toList = xs.flatMap fun x => x.data.toList := by unfold joined; rfl
/-- a slice value that holds the strings xs -/
def Parts (w : World) (v : Value) (xs : List ByteArray) : Prop :=
 (xs = [] ∧ ∃ a c, v = .slice a 0 c) ∨
 (∃ b o c, v = .slice (some ⟨b, o, none⟩) xs.length c ∧ (∀ (j : Nat) x, xs[j]? = some x → w.cell? ⟨b, o + j, none⟩ = some (.string x)) ∧ b < w.heap.size ∧ xs.length ≤ c)
theorem Parts.below {w w' : World} {v : Value} {xs : List ByteArray} (h : Parts w v xs) (hb : Below w.heap.size w w') : Parts w' v xs := by
 rcases h with h | ⟨b, o, c, hv, hc, hl, hx⟩
 · exact .inl h
 · exact .inr ⟨b, o, c, hv, fun j x hx => (hb.cell (p := ⟨b, o + j, none⟩) hl).trans (hc j x hx), Nat.lt_of_lt_of_le hl hb.size, hx⟩
theorem joinTail_nil (l : List (List UInt8)) : Lib.joinTail [] l = l.flatten := by
 unfold Lib.joinTail
 rw [show l.map (([] : List UInt8) ++ ·) = l from List.map_id' l]
theorem join_nil (l : List (List UInt8)) : Lib.join l [] = l.flatten := by
 cases l with
 | nil => rfl
 | cons x l => rw [Lib.join_cons, joinTail_nil]; rfl
theorem join_any (w : World) (v : Value) (xs : List ByteArray) (h : Parts w v xs) (hs : (joined xs).size ≤ 140737488355328) (hN : xs.length ≤ 140737488355328) :
 Calls Tryz.prog 99 #[v, .string ⟨#[]⟩] w fun e w' => e = .returned (.string (joined xs)) ∧ Below w.heap.size w w' := by
 rcases h with ⟨rfl, a, c, rfl⟩ | ⟨b, o, c, rfl, hc, hl, hx⟩
 · refine (Tryz.strings_Join_none a c ⟨#[]⟩ w).mono ?_
   rintro e w' ⟨rfl, rfl⟩
   exact ⟨by unfold joined; rfl, Below.refl _ _⟩
 · have e : Lib.join (xs.map (·.data.toList)) [] = xs.flatMap fun x => x.data.toList := by rw [join_nil, List.flatMap_def]
   have hs' : (xs.flatMap fun x => x.data.toList).length ≤ 140737488355328 := by
    rw [← joined_list, Array.length_toList]; exact hs
   refine (Tryz.strings_Join b o c xs ⟨#[]⟩ w hc hl hN hx (by show (Lib.join _ []).length ≤ _; rw [e]; exact hs')).mono ?_
   rintro e' w' ⟨rfl, hb⟩
   refine ⟨?_, hb⟩
   show Ending.returned (.string ⟨(Lib.join _ []).toArray⟩) = _
   rw [e]; unfold joined; rfl
/-- n zero bytes; the name is not opened by unification -/
@[irreducible] def zeroStr (n : Nat) : ByteArray := ⟨(List.replicate n (0 : UInt8)).toArray⟩
theorem zeroStr_list (n : Nat) : (zeroStr n).data.toList = List.replicate n 0 := by unfold zeroStr; rfl
theorem zeroStr_size (n : Nat) : (zeroStr n).size = n := by unfold zeroStr; show (List.replicate n (0 : UInt8)).toArray.size = n; simp
theorem repeat_zero (w : World) (c : Nat) (hc : c ≤ 1000000) : Calls Tryz.prog 100 #[.string ⟨#[0]⟩, .int .i64 c] w fun e w' => e = .returned (.string (zeroStr c)) ∧ Below w.heap.size w w' := by
 refine (Tryz.strings_Repeat ⟨#[0]⟩ c w (by omega) (by show 1 * c ≤ _; omega)).mono ?_
 rintro e w' ⟨rfl, hb⟩
 refine ⟨?_, hb⟩
 have e : Lib.repeatL (⟨#[0]⟩ : ByteArray).data.toList c = List.replicate c 0 := by
  show Lib.repeatL [0] c = _
  induction c with
  | zero => rfl
  | succ c ih => rw [List.replicate_succ, ← ih (by omega)]; rfl
 rw [e]; unfold zeroStr; rfl
end Go.Proofs.YtfpcelmekfdafaaGreatDoor.Jo
namespace Go.Proofs.YtfpcelmekfdafaaGreatDoor.Sha
open Go.RowKit Go.Proofs.YtfpcelmekfdafaaGreatDoor.Cl
/-- the first k words of h, then zeros -/
def pad8 (h : List Nat) (k : Nat) : List Nat := (List.range 8).map fun i => if i < k then nth h i else 0
theorem pad8_length (h : List Nat) (k : Nat) : (pad8 h k).length = 8 := by simp [pad8]
theorem pad8_set (h : List Nat) (k v : Nat) (hk : k < 8) (hv : v = nth h k) : (pad8 h k).set k v = pad8 h (k + 1) := by
 apply List.ext_getElem
 · simp [pad8]
 · intro i h1 h2
   rw [List.getElem_set]
   simp only [pad8, List.getElem_map, List.getElem_range]
   by_cases hij : k = i
   · subst hij; simp [hv]
   · have : i < k + 1 ↔ i < k := by omega
     simp [hij, this]
theorem pad8_all (h : List Nat) (hl : h.length = 8) : pad8 h 8 = h := by
 match h, hl with
 | [a, b, c, d, e, f, g, i], _ => rfl
theorem zero8 (w : World) (T : Nat) : Row (w.alloc (.cells #[.int .u64 0, .int .u64 0, .int .u64 0, .int .u64 0, .int .u64 0, .int .u64 0, .int .u64 0, .int .u64 0] T)) w.heap.size T (pad8 [] 0) := Rg.Blk.new w _ T
theorem pad8_zero (h : List Nat) : pad8 h 0 = pad8 [] 0 := by rfl
theorem nth_h0 (W k : Nat) (hk : k < 8) : nth (h0 W) k = if W = 32 then hi32 (nth firstL k) else nth firstL k := by
 simp [nth, h0, hk]
theorem extract_list (s : ByteArray) (n : Nat) : (s.extract n s.size).data.toList = s.data.toList.drop n := by
 simp
 exact List.take_of_length_le (by rw [List.length_drop, Array.length_toList]; exact Nat.le_refl _)
theorem extract_list0 (s : ByteArray) (n : Nat) : (s.extract 0 n).data.toList = s.data.toList.take n := by
 simp
theorem outBytes_snoc (W : Nat) (hs : List Nat) (j : Nat) (hj : j < hs.length) : Lib.byteCells (outBytes W (hs.take (j + 1))) = Lib.byteCells (outBytes W (hs.take j)) ++ Lib.byteCells (beBytes (W / 8) (nth hs j)) := by
 have e : nth hs j = hs[j] := by simp [nth, hj]
 rw [List.take_succ_eq_append_getElem hj, ← e]
 unfold outBytes Lib.byteCells
 rw [List.flatMap_append, List.map_append, List.flatMap_cons, List.flatMap_nil, List.append_nil]
def padn (n : Nat) : Nat := (128 - (n + 17) % 128) % 128
def strLen : Value → Nat
 | .string s => s.size
 | _ => 0
theorem bytes_append (a b : ByteArray) : (a ++ b).data.toList = a.data.toList ++ b.data.toList := by
 simp
theorem sum512 (w : World) (v : Value) (xs : List ByteArray) (hT : Tables w) (hP : Jo.Parts w v xs) (hs : (Jo.joined xs).size ≤ 1000000) (hN : xs.length ≤ 1000000) :
 Calls Tryz.prog 88 #[K512, v] w fun e w' => e = .returned (.string ⟨(sha 64 (Jo.joined xs).data.toList).toArray⟩) ∧ Below w.heap.size w w' := by
 have HT := ϕ hT
 have HP := ϕ hP
 clear hT hP
 unfold K512
 go_enter Tryz.func88, Tryz.ntmps88
 go_wp2_with (first
  | (refine Rg.box_fresh rfl 113 _ rfl _ rfl ?_; intro V hK hbV hnV; have HK := ϕ hK; have HBV := ϕ hbV; have HNV := ϕ hnV; clear hK hbV hnV))
 generalize hX : World.alloc V _ = X
 have HX := ϕ (show Row X V.heap.size 124 (pad8 (h0 64) 0) by subst hX; rw [pad8_zero]; exact zero8 _ _)
 have HKX := ϕ (show Rg.Blk X w.heap.size 113 k512c by subst hX; exact HK.out.alloc _)
 have HBX := ϕ (show Below w.heap.size w X by subst hX; exact HBV.out.alloc (by rw [HNV.out]; omega) _)
 have hwV : w.heap.size < V.heap.size := by rw [HNV.out]; omega
 clear hX
 go_loopw [18] (fun i wr => ∃ k : Nat, k ≤ 8 ∧ i = .int .i64 k ∧ Row wr V.heap.size 124 (pad8 (h0 64) k) ∧ Below V.heap.size X wr) (fun i _ => 8 - (intOf i).toNat)
 case atStart => exact ⟨0, by decide, rfl, HX.out, Below.refl _ _⟩
 case round =>
  obtain ⟨k, hk, rfl, hR, hb⟩ := hrel
  have hwr : V.heap.size < wr.heap.size := hR.lt
  have HR := ϕ hR
  have HB := ϕ hb
  have HKr := ϕ (HKX.out.below hb hwV)
  have HTr := ϕ ((HT.out.below HBX.out HT.out.size).below hb (by have := HT.out.size; omega))
  clear hR hb
  by_cases hk8 : k < 8
  · go_wp2_with fail
    have hKl : w.heap.size < wr.heap.size := by omega
    have tk := fun s : Rg.Later wr.heap.size wr => (s.cell 1 k (Nat.lt_of_lt_of_le (by decide) HTr.out.size)).trans (HTr.out.first k (by omega))
    have ik : (k : Int) < 8 := by omega
    refine Rg.wp_region_later wr.heap.size 7 (by kernel_rfl) (by kernel_rfl) ?_
    simp only [List.take_succ_cons, List.take_zero, List.drop_succ_cons, List.drop_zero]
    repeat (first | (go_big_quiet_want; refine Rg.quiet_load_row 113 _ rfl _ rfl _ _ _ (HKr.out.later hKl) Tryz.underlying113 rfl (by kernel_rfl) ?_; simp only [Act.put, List.setIfInBounds_toArray, List.set_cons_succ, List.set_cons_zero]; go_big_quiet_on) | go_big_quiet_step ((go_at_call 98; exact Rg.later_of (Nat.le_refl _) (word512_any _ _))))
    refine wpQuiet_nil ?_
    rintro _ ⟨s9, rfl⟩
    clear tk
    refine store_cell rfl 46 _ _ rfl rfl rfl Tryz.underlying46 (by kernel_rfl) (HR.out.below s9.is hwr) (by rw [pad8_length]; exact hk8) ?_
    intro w9 hR9 hg9
    have HR9 := ϕ hR9
    have HB9 := ϕ ((HB.out.trans (s9.is.mono (by omega))).grown hg9 (by have := s9.is.size; omega) (fun k hk => by cases hk; exact Nat.le_refl _))
    clear hR9 hg9
    go_wp2_with fail
    go_roundw
    case rel =>
     refine ⟨k + 1, by omega, by go_num, ?_, HB9.out⟩
     exact pad8_set (h0 64) k _ hk8 (by rw [nth_h0 _ _ hk8]; try rfl) ▸ HR9.out
    case measure => simp [intOf]; omega
  · obtain rfl : k = 8 := by omega
    have kw0 := HKr.out.cell 0 (v := .int .i64 64) rfl
    have HR8 := ϕ (show Row wr V.heap.size 124 (h0 64) from pad8_all (h0 64) (h0_length _) ▸ HR.out)
    obtain ⟨n, hn⟩ : ∃ n, (Jo.joined xs).size = n := ⟨_, rfl⟩
    have hn' : n ≤ 1000000 := hn ▸ hs
    have hs' : (Jo.joined xs).size ≤ 140737488355328 := by omega
    have Hs := ϕ hs'
    clear hs hs'
    have HPr := ϕ (show Jo.Parts wr v xs from HP.out.below (HBX.out.trans (HB.out.mono (by omega))))
    have hp : (-(((n : Int) + 1 + 16) % 128) % 128) = ((padn n : Nat) : Int) := by unfold padn; omega
    have hp2 : ((padn n : Nat) : Int) + 16 - 8 = ((zeros 64 n : Nat) : Int) := by unfold padn zeros; omega
    have hz : zeros 64 n ≤ 256 := by unfold zeros; omega
    have hzs := Jo.zeroStr_size (zeros 64 n)
    have hq1 : ¬ 9223372036854775807 < 1 + (Jo.zeroStr (zeros 64 n)).size := by omega
    have hq2 : ¬ 9223372036854775807 < n + (1 + (Jo.zeroStr (zeros 64 n)).size) := by omega
    clear hzs
    obtain ⟨wo, rfl⟩ : ∃ wo : World, wo = wr := ⟨_, rfl⟩
    go_wp2_with fail
    have kL := fun s : Rg.Later wo.heap.size wo => HKr.out.cellL (show w.heap.size < wo.heap.size by omega) 0 (v := .int .i64 64) rfl s
    refine Rg.wp_region_later_all wo.heap.size (by kernel_rfl) (by kernel_rfl) ?_
    repeat (go_big_quiet_step (fail))
    refine wpQuiet_nil ?_
    rintro _ ⟨s1, rfl⟩
    clear kL kw0
    go_wp2_with (first
     | (go_at_call 99; refine (Jo.join_any _ _ xs (HPr.out.below s1.is) Hs.out (by omega)).mono ?_; rintro e w2 ⟨rfl, hb2⟩; have HB2 := ϕ hb2; clear hb2)
     | (go_at_call 100; refine (Jo.repeat_zero _ (zeros 64 n) (by omega)).mono ?_; rintro e w3 ⟨rfl, hb3⟩; have HB3 := ϕ hb3; clear hb3))
    clear hq1 hq2 hp hp2
    have HT1 := ϕ (show (Jo.joined xs ++ ((⟨#[128]⟩ : ByteArray) ++ Jo.zeroStr (zeros 64 n))).data.toList = (Jo.joined xs).data.toList ++ ([128] ++ List.replicate (zeros 64 n) 0) by rw [bytes_append, bytes_append, Jo.zeroStr_list])
    have HTS := ϕ (show (Jo.joined xs ++ ((⟨#[128]⟩ : ByteArray) ++ Jo.zeroStr (zeros 64 n))).size ≤ 1000300 by rw [ByteArray.size_append, ByteArray.size_append, Jo.zeroStr_size, hn]; show n + (1 + zeros 64 n) ≤ _; omega)
    generalize Jo.joined xs ++ ((⟨#[128]⟩ : ByteArray) ++ Jo.zeroStr (zeros 64 n)) = tx at *
    have HKw := ϕ (((HKr.out.below s1.is HKr.out.lt).below HB2.out (by have := s1.is.size; omega)).below HB3.out (by have := s1.is.size; have := HB2.out.size; omega))
    have HRw := ϕ (((HR8.out.below s1.is hwr).below HB2.out (by have := s1.is.size; omega)).below HB3.out (by have := s1.is.size; have := HB2.out.size; omega))
    have HBw := ϕ (show Below w.heap.size w w3 from (((HBX.out.trans (HB.out.mono (by omega))).trans (s1.is.mono (by omega))).trans (HB2.out.mono (by have := s1.is.size; omega))).trans (HB3.out.mono (by have := s1.is.size; have := HB2.out.size; omega)))
    have HBu := ϕ (Bu.fresh w3)
    have HBY := ϕ (show Below w3.heap.size w3 (w3.alloc (.cells #[.pointer none, .slice none 0 0] 129)) from (Below.refl _ _).alloc (Nat.le_refl _) _)
    go_loopw [13] (fun i wr => ∃ k : Nat, k ≤ 8 ∧ i = .int .i64 (56 - 8 * (k : Int)) ∧ Lib.IsBuilder 129 5 w3.heap.size w3.heap.size (Lib.byteCells ((beBytes 8 (n * 8)).take k)) wr ∧ Below w3.heap.size w3 wr) (fun i _ => (intOf i + 8).toNat)
    case atStart => exact ⟨0, by decide, rfl, HBu.out, HBY.out⟩
    case round =>
     obtain ⟨k, hk, rfl, hU, hb⟩ := hrel
     have HU := ϕ hU
     have HBk := ϕ hb
     clear hU hb
     by_cases hk8 : k < 8
     · have i0 : 0 ≤ 56 - 8 * (k : Int) := by omega
       have hsz := HBk.out.size
       have hc := be_cells 8 (n * 8) k hk8 (56 - 8 * k) (by omega)
       have HC := ϕ hc
       clear hc
       have hle : (Lib.byteCells ((beBytes 8 (n * 8)).take k)).length + 1 ≤ 140737488355328 := by rw [Lib.byteCells_length, List.length_take, beBytes_length]; omega
       have HLE := ϕ hle
       clear hle
       go_wp2_with (go_at_call 101; refine (Bu.writeByte _ _ _ _ _ HU.out HLE.out hsz).mono ?_; rintro e w5 ⟨rfl, hU5, hb5⟩; have HU5 := ϕ hU5; have HB5 := ϕ hb5; clear hU5 hb5)
       go_roundw
       case rel =>
        refine ⟨k + 1, by omega, by go_num, ?_, HBk.out.trans HB5.out⟩
        rw [HC.out]
        exact .inr HU5.out
       case measure => simp [intOf]; omega
     · obtain rfl : k = 8 := by omega
       have hsz := HBk.out.size
       have hq3 : ¬ 9223372036854775807 < tx.size + (beBytes 8 (n * 8)).length := by rw [beBytes_length]; have := HTS.out; omega
       have htake : (beBytes 8 (n * 8)).take 8 = beBytes 8 (n * 8) := List.take_of_length_le (by rw [beBytes_length]; exact Nat.le_refl _)
       have HU8 := ϕ (htake ▸ HU.out)
       clear htake
       go_wp2_with (first
        | (go_at_call 102; refine (Tryz.Builder_String_any _ _ _ _ HU8.out hsz).mono ?_; rintro e w6 ⟨rfl, hb6⟩; have HB6 := ϕ hb6; clear hb6))
       have HSP := ϕ (show (tx ++ (⟨(beBytes 8 (n * 8)).toArray⟩ : ByteArray)).data.toList = padded 64 (Jo.joined xs).data.toList by
        have hbl : (Jo.joined xs).data.toList.length = n := by rw [Array.length_toList]; exact hn
        rw [bytes_append, HT1.out]; unfold padded; rw [hbl])
       have HSZ := ϕ (show (tx ++ (⟨(beBytes 8 (n * 8)).toArray⟩ : ByteArray)).size ≤ 1000400 by
        rw [ByteArray.size_append]; have := HTS.out; show tx.size + (beBytes 8 (n * 8)).toArray.size ≤ _; rw [List.size_toArray, beBytes_length]; omega)
       generalize tx ++ (⟨(beBytes 8 (n * 8)).toArray⟩ : ByteArray) = sp at *
       have hm := padded_length64 (Jo.joined xs).data.toList
       have hml : (padded 64 (Jo.joined xs).data.toList).length ≤ 2000000 := by
        rw [← HSP.out, Array.length_toList]; show sp.size ≤ _; exact Nat.le_trans HSZ.out (by decide)
       generalize hbs : (Jo.joined xs).data.toList = bs at *
       have HBS := ϕ hbs
       clear hbs
       have HM0 : padded 64 bs = padded 64 bs := rfl
       generalize hmm : padded 64 bs = m at *
       have HM := ϕ hmm
       clear hmm HM0
       have HKs := ϕ ((HKw.out.below HBk.out HKw.out.lt).below HB6.out HKw.out.lt)
       have HRs := ϕ ((HRw.out.below HBk.out HRw.out.lt).below HB6.out HRw.out.lt)
       have HBs := ϕ (show Below w.heap.size w w6 from (HBw.out.trans (HBk.out.mono HBw.out.size)).trans (HB6.out.mono HBw.out.size))
       clear hq3
       go_loopw [9] (fun s wr => ∃ (k : Nat) (sv : ByteArray), s = .string sv ∧ sv.data.toList = m.drop (k * 128) ∧ k * 128 ≤ m.length ∧ Row wr V.heap.size 124 (hashTo 64 m k) ∧ Rg.Blk wr w.heap.size 113 k512c ∧ Below w.heap.size w wr) (fun s _ => strLen s)
       case atStart => exact ⟨0, sp, rfl, by rw [HSP.out, Nat.zero_mul]; rfl, by omega, HRs.out, HKs.out, HBs.out⟩
       case round =>
        obtain ⟨k, sv, rfl, hsv, hkm, hR, hK, hb⟩ := hrel
        have hsvl : sv.size = m.length - k * 128 := by
         have := congrArg List.length hsv
         rw [Array.length_toList, List.length_drop] at this; exact this
        have HSV := ϕ hsv
        have HR := ϕ hR
        have HK := ϕ hK
        have HB := ϕ hb
        clear hsv hR hK hb
        by_cases hgo : k * 128 < m.length
        · have hge : 128 ≤ sv.size := by omega
          clear hsvl
          have hlw := HR.out.lt
          go_wp2_with fail
          have hi1 : (128 : Int) ≤ sv.size := by omega
          refine Rg.wp_region_later wr.heap.size 4 (by kernel_rfl) (by kernel_rfl) ?_
          simp only [List.take_succ_cons, List.take_zero, List.drop_succ_cons, List.drop_zero]
          repeat (first | (go_big_quiet_want; refine Rg.quiet_load_row 113 _ rfl _ rfl _ _ _ (HK.out.later HK.out.lt) Tryz.underlying113 rfl (by kernel_rfl) ?_; simp only [Act.put, List.setIfInBounds_toArray, List.set_cons_succ, List.set_cons_zero]; go_big_quiet_on) | go_big_quiet_step (fail))
          refine wpQuiet_nil ?_
          rintro _ ⟨s7, rfl⟩
          have hV2 : 2 ≤ V.heap.size := by have := HT.out.size; omega
          have HTx := ϕ (show Tables s7.val from (HT.out.below HB.out HT.out.size).below s7.is (by have := HT.out.size; omega))
          have hex : (sv.extract 0 128).size = 128 := by rw [ByteArray.size_extract]; omega
          have Hex := ϕ hex
          clear hex
          go_wp2_with (first
           | (go_at_call 103; refine (mix512 _ V.heap.size _ _ Hex.out HTx.out hV2 (HR.out.below s7.is hlw) (hashTo_length _ _ _) (hashTo_lt 64 (by decide) m k)).mono ?_; rintro e w8 ⟨rfl, hR8, hg8⟩; have HRm := ϕ hR8; have HGm := ϕ hg8; clear hR8 hg8))
          go_roundw
          case rel =>
           have hsv' := HSV.out
           refine ⟨k + 1, _, rfl, ?_, by omega, ?_, blk_grown (HK.out.below s7.is HK.out.lt) HGm.out (by omega), ?_⟩
           · rw [extract_list, hsv', List.drop_drop]
             congr 1; omega
           · have e : hashTo 64 m (k + 1) = mixed 64 (sv.extract 0 128).data.toList (hashTo 64 m k) := by
              rw [extract_list0, hsv']; rfl
             rw [e]; exact HRm.out
           · exact ((HB.out.trans (s7.is.mono (by have := HK.out.lt; omega))).grown HGm.out (by have := s7.is.size; have := HK.out.lt; omega) (fun k hk => by cases hk; omega))
          case measure => simp only [strLen, ByteArray.size_extract]; omega
        · obtain hkl : k * 128 = m.length := by omega
          obtain ⟨wo2, rfl⟩ : ∃ wo2 : World, wo2 = wr := ⟨_, rfl⟩
          have h0s : sv.size = 0 := by omega
          clear hsvl
          have HN8 := ϕ (show (u64s (hashTo 64 m k)).size = 8 by simp [u64s, hashTo_length])
          go_wp2_with (first
           | (refine wpList_load_row rfl 124 _ rfl V.heap.size rfl _ _ _ _ (Rg.Blk.alloc HR.out _) Tryz.underlying124 rfl (by rw [HN8.out]; rfl) ?_))
          clear h0s
          have HBo := ϕ (show Below w.heap.size w wo2 from HB.out)
          have HKo := ϕ (show Rg.Blk wo2 w.heap.size 113 k512c from HK.out)
          have HBu2 := ϕ (Bu.fresh wo2)
          have HBY2 := ϕ (show Below wo2.heap.size wo2 (wo2.alloc (.cells #[.pointer none, .slice none 0 0] 129)) from (Below.refl _ _).alloc (Nat.le_refl _) _)
          have hhl := hashTo_length 64 m k
          have HSHA := ϕ (show sha 64 bs = outBytes 64 (hashTo 64 m k) by
           unfold sha; rw [HM.out]; congr 2; omega)
          have hwo : w.heap.size < wo2.heap.size := HKo.out.lt
          generalize hashTo 64 m k = hs at *
          go_loopw [83] (fun i wr => ∃ j : Nat, j ≤ 8 ∧ i = .int .i64 j ∧ Lib.IsBuilder 129 5 wo2.heap.size wo2.heap.size (Lib.byteCells (outBytes 64 (hs.take j))) wr ∧ Below wo2.heap.size wo2 wr) (fun i _ => 8 - (intOf i).toNat)
          case atStart => exact ⟨0, by decide, rfl, HBu2.out, HBY2.out⟩
          case round =>
           obtain ⟨j, hj, rfl, hU, hb⟩ := hrel
           have HU2 := ϕ hU
           have HBk2 := ϕ hb
           clear hU hb
           by_cases hj8 : j < 8
           · have hidx := fun w => index_words (P := Tryz.prog) 124 46 8 hs j Tryz.underlying124 Tryz.underlying46 (by kernel_rfl) hhl hj8 w
             have kw0 := (HKo.out.below HBk2.out hwo).cell 0 (v := .int .i64 64) rfl
             obtain ⟨wo3, rfl⟩ : ∃ wo3 : World, wo3 = wr := ⟨_, rfl⟩
             have hd : decide ((j : Int) < 8) = true := by simp; omega
             go_wp2_with fail
             clear hd
             clear hidx kw0
             go_loopw [17] (fun i wr => ∃ l : Nat, l ≤ 8 ∧ i = .int .i64 (56 - 8 * (l : Int)) ∧ Lib.IsBuilder 129 5 wo2.heap.size wo2.heap.size (Lib.byteCells (outBytes 64 (hs.take j)) ++ Lib.byteCells ((beBytes 8 (nth hs j)).take l)) wr ∧ Below wo2.heap.size wo2 wr) (fun i _ => (intOf i + 8).toNat)
             case atStart => exact ⟨0, by omega, rfl, by rw [show (beBytes 8 (nth hs j)).take 0 = [] from rfl, show Lib.byteCells [] = [] from rfl, List.append_nil]; exact HU2.out, HBk2.out⟩
             case round =>
              obtain ⟨l, hl, rfl, hU, hb⟩ := hrel
              have HU3 := ϕ hU
              have HBk3 := ϕ hb
              have hsz := HBk3.out.size
              clear hU hb
              by_cases hl8 : l < 8
              · have i0 : 0 ≤ 56 - 8 * (l : Int) := by omega
                have HC := ϕ (be_cells 8 (nth hs j) l hl8 (56 - 8 * l) (by omega))
                have hle : (Lib.byteCells (outBytes 64 (hs.take j)) ++ Lib.byteCells ((beBytes 8 (nth hs j)).take l)).length + 1 ≤ 140737488355328 := by
                 rw [List.length_append, Lib.byteCells_length, Lib.byteCells_length, outBytes_length, List.length_take, List.length_take, beBytes_length]
                 have : min j hs.length * (64 / 8) ≤ 8 * 8 := Nat.mul_le_mul (by omega) (by decide)
                 omega
                have HLE := ϕ hle
                clear hle
                go_wp2_with (go_at_call 101; refine (Bu.writeByte _ _ _ _ _ HU3.out HLE.out hsz).mono ?_; rintro e w9 ⟨rfl, hU9, hb9⟩; have HU9 := ϕ hU9; have HB9 := ϕ hb9; clear hU9 hb9)
                go_roundw
                case rel =>
                 have hU10 : Lib.IsBuilder 129 5 wo2.heap.size wo2.heap.size (Lib.byteCells (outBytes 64 (hs.take j)) ++ Lib.byteCells ((beBytes 8 (nth hs j)).take (l + 1))) w9 := by
                  rw [HC.out, ← List.append_assoc]
                  exact .inr HU9.out
                 first
                  | exact ⟨l + 1, by omega, by go_num, hU10, HBk3.out.trans HB9.out⟩
                  | ((repeat apply Exists.intro); refine ⟨?_, rfl⟩; exact ⟨l + 1, by omega, by go_num, hU10, HBk3.out.trans HB9.out⟩)
                case measure => simp [intOf]; omega
              · obtain rfl : l = 8 := by omega
                go_wp2_with fail
                go_roundw
                case rel =>
                 have hU11 : Lib.IsBuilder 129 5 wo2.heap.size wo2.heap.size (Lib.byteCells (outBytes 64 (hs.take (j + 1)))) wr := by
                  rw [outBytes_snoc 64 hs j (by omega)]
                  have := HU3.out
                  rwa [show (beBytes 8 (nth hs j)).take 8 = beBytes 8 (nth hs j) from List.take_of_length_le (by rw [beBytes_length]; exact Nat.le_refl _)] at this
                 first
                  | exact ⟨j + 1, by omega, by go_num, hU11, HBk3.out⟩
                  | ((repeat apply Exists.intro); refine ⟨?_, rfl⟩; exact ⟨j + 1, by omega, by go_num, hU11, HBk3.out⟩)
                case measure => simp [intOf]; omega
           · obtain rfl : j = 8 := by omega
             have hsz := HBk2.out.size
             have HU8b := ϕ (show Lib.IsBuilder 129 5 wo2.heap.size wo2.heap.size (Lib.byteCells (outBytes 64 hs)) wr from (show hs.take 8 = hs from List.take_of_length_le (by omega)) ▸ HU2.out)
             go_wp2_with (first
              | (go_at_call 102; refine (Tryz.Builder_String_any _ _ _ _ HU8b.out hsz).mono ?_; rintro e w6 ⟨rfl, hb6⟩; have HB6b := ϕ hb6; clear hb6))
             go_ret
             exact ⟨by rw [HBS.out, HSHA.out]; rfl, (HBo.out.trans (HBk2.out.mono (by omega))).trans (HB6b.out.mono (by omega))⟩
open Go.Proofs.YtfpcelmekfdafaaGreatDoor.Cv
theorem kind512_any (w : World) : Calls Tryz.prog 87 #[] w fun e w' => e = .returned K512 ∧ Below w.heap.size w w' := by
 unfold K512 k512c
 go_enter Tryz.func87, Tryz.ntmps87
 go_wp2
 exact bodyPost_ret (v := K512) (by simp [results, Tryz.results87, go_sem, K512, k512c]) rfl ⟨rfl, (Below.refl _ _).alloc (Nat.le_refl _) _⟩
theorem Sum512_any (w : World) (v : Value) (xs : List ByteArray) (hT : Tables w) (hP : Jo.Parts w v xs) (hs : (Jo.joined xs).size ≤ 1000000) (hN : xs.length ≤ 1000000) :
 Calls Tryz.prog 54 #[v] w fun e w' => e = .returned (.agg (bytesV (sha 64 (Jo.joined xs).data.toList))) ∧ Below w.heap.size w w' := by
 have HT := ϕ hT
 have HP := ϕ hP
 have Hs := ϕ hs
 have HL := ϕ (sha_length 64 (by decide) (Jo.joined xs).data.toList)
 have HZ := ϕ (show (bytesV (sha 64 (Jo.joined xs).data.toList)).size = 64 by rw [bytesV_size, HL.out])
 clear hT hP hs
 go_enter Tryz.func54, Tryz.ntmps54
 go_wp2_with fail
 generalize hX : World.alloc w _ = X
 have HBX := ϕ (show Below w.heap.size w X by subst hX; exact (Below.refl _ _).alloc (Nat.le_refl _) _)
 have HR := ϕ (show ∃ cs : Array Value, cs.size = 64 ∧ Rg.Blk X w.heap.size 29 cs by subst hX; exact ⟨_, rfl, Rg.Blk.new _ _ _⟩)
 have hXs : w.heap.size < X.heap.size := by obtain ⟨cs, _, h⟩ := HR.out; exact h.lt
 clear hX
 go_wp2_with (first
  | (go_at_call 87; refine (kind512_any _).mono ?_; rintro e w1 ⟨rfl, hb1⟩; have HB1 := ϕ hb1; clear hb1)
  | (go_at_call 88; refine (sum512 _ _ xs ((HT.out.below HBX.out HT.out.size).below HB1.out (by have := HT.out.size; omega)) ((HP.out.below HBX.out).below (HB1.out.mono (Nat.le_refl _) |>.mono (Nat.le_refl _))) Hs.out hN).mono ?_; rintro e w2 ⟨rfl, hb2⟩; have HB2 := ϕ hb2; clear hb2
     have HSL := ϕ (show (⟨(sha 64 (Jo.joined xs).data.toList).toArray⟩ : ByteArray).data.toList = sha 64 (Jo.joined xs).data.toList from rfl)
     have hsz : (⟨(sha 64 (Jo.joined xs).data.toList).toArray⟩ : ByteArray).size = 64 := by show (sha 64 _).toArray.size = 64; rw [List.size_toArray, HL.out]
     generalize (⟨(sha 64 (Jo.joined xs).data.toList).toArray⟩ : ByteArray) = sb at *
     have HSZ := ϕ hsz
     clear hsz)
  | (refine conv_bytes rfl 9 25 5 _ rfl rfl Tryz.underlying9 Tryz.underlying25 Tryz.underlying5 ?_; intro Y cap hY hfY hbY hnY hcY; have HY := ϕ hY; have HBY := ϕ hbY; clear hY hfY hbY hnY hcY)
  | (refine slice_to_array rfl 29 5 64 _ rfl _ _ _ _ rfl Tryz.underlying29 (by rw [HSZ.out]; decide) ?_)
  | (refine load_cells rfl 29 _ rfl _ 0 rfl (bytesV (sha 64 (Jo.joined xs).data.toList)) _ (HSL.out ▸ HY.out).cells Tryz.underlying29 rfl (by rw [HZ.out]; rfl) ?_)
  | (obtain ⟨cs, hcs, hB⟩ := HR.out
     refine store_blk rfl 29 _ _ rfl w.heap.size _ cs 29 rfl rfl (((hB.below HB1.out hXs).below HB2.out (by have := HB1.out.size; omega)).below HBY.out (by have := HB1.out.size; have := HB2.out.size; omega)) (by rw [HZ.out]; rfl) (by rw [hcs, HZ.out]) (bytesV_one _) ?_
     intro Z hZ hgZ; have HZZ := ϕ hZ; have HGZ := ϕ hgZ; clear hZ hgZ hcs hB))
 exact bodyPost_ret (v := .agg (bytesV (sha 64 (Jo.joined xs).data.toList)))
  (results_cell_row Tryz.results54 _ _ w.heap.size 29 _ (0, 0) _ rfl HZZ.out Tryz.underlying29 rfl (by rw [HZ.out]; rfl)) rfl
  ⟨rfl, (((HBX.out.trans (HB1.out.mono (by omega))).trans (HB2.out.mono (by have := HB1.out.size; omega))).trans (HBY.out.mono (by have := HB1.out.size; have := HB2.out.size; omega))).grown HGZ.out (by have := HB1.out.size; have := HB2.out.size; have := HBY.out.size; omega) (fun k hk => by cases hk; exact Nat.le_refl _)⟩
open Go.Proofs.YtfpcelmekfdafaaGreatDoor.Ws Go.Proofs.YtfpcelmekfdafaaGreatDoor.Ow
theorem infoU8 : (Tryz.prog.info? 5).map (fun i => (i.zero, i.size, i.bytes)) = some (some (.int .u8 0), 1, 1) := by kernel_rfl
def zeros1 (W n : Nat) : Nat := (2 * W - (n + 1 + W / 4) % (2 * W)) % (2 * W)
theorem zeros_eq (W n : Nat) (h : 8 ≤ W / 4) : zeros W n = zeros1 W n + (W / 4 - 8) := by unfold zeros zeros1; omega
theorem zeros1_test64 (n j : Nat) (h : j ≤ zeros1 64 n) : (n + 1 + j + 16) % 128 = 0 ↔ j = zeros1 64 n := by unfold zeros1 at *; omega
theorem push_zero (o : ByteArray) (a : List UInt8) (j : Nat) (h : o.data.toList = a ++ ([128] ++ List.replicate j 0)) : (o ++ (⟨#[0]⟩ : ByteArray)).data.toList = a ++ ([128] ++ List.replicate (j + 1) 0) := by
 rw [bytes_append, h, List.append_assoc, List.append_assoc, ← List.replicate_succ']
theorem be_snoc (k x q : Nat) (hq : q = x / 256 ^ k) : [Value.int .u8 ((q : Int) % 256)] ++ bv (beBytes k x) = bv (beBytes (k + 1) x) := by
 have e : bv (beBytes (k + 1) x) = bv [UInt8.ofNat (x / 256 ^ k)] ++ bv (beBytes k x) := by rw [← bv_append]; rfl
 rw [e, bv_one (UInt8.ofNat (x / 256 ^ k)) ((q : Int) % 256) (by rw [UInt8.toNat_ofNat', hq, Int.natCast_emod]; rfl)]
theorem div_next (x k q : Nat) (hq : q = x / 256 ^ k) : q / 256 = x / 256 ^ (k + 1) := by rw [hq, Nat.div_div_eq_div_mul, ← Nat.pow_succ]
theorem padded_of (W : Nat) (s o : ByteArray) (h : o.data.toList = s.data.toList ++ ([128] ++ List.replicate (zeros W s.size) 0)) : (o ++ (⟨(beBytes 8 (s.size * 8)).toArray⟩ : ByteArray)).data.toList = padded W s.data.toList := by
 rw [bytes_append, h]; unfold padded; rw [Array.length_toList]; rfl
theorem extract_mid (s : ByteArray) (a b : Nat) : (s.extract a (a + b)).data.toList = (s.data.toList.drop a).take b := by
 simp [List.take_drop]
theorem out_snoc (W : Nat) (hs : List Nat) (j : Nat) (hj : j < hs.length) : bv (outBytes W (hs.take (j + 1))) = bv (outBytes W (hs.take j)) ++ bv (beBytes (W / 8) (nth hs j)) := outBytes_snoc W hs j hj
theorem be_take (m x k : Nat) (h : k < m) (e : Nat) (he : e = 8 * (m - 1 - k)) : bv ((beBytes m x).take k) ++ [.int .u8 ((x : Int) / 2 ^ e % 256)] = bv ((beBytes m x).take (k + 1)) := (be_cells m x k h e he).symm
theorem words8 {w : World} {b c : Nat} {hh : List Nat} (h : At8 w b hh) (hl : hh.length = 8) (hc : 8 ≤ c) : Words w (.slice (some ⟨b, 0, none⟩) 8 c) hh :=
 ⟨b, c, by rw [hl], by omega, h.1, fun j hj => h.2 j (by omega)⟩
theorem at8_words {w : World} {v : Value} {hh : List Nat} (h : Words w v hh) (hl : hh.length = 8) : ∃ b c, v = .slice (some ⟨b, 0, none⟩) 8 c ∧ 8 ≤ c ∧ At8 w b hh := by
 obtain ⟨b, c, hv, hc, hb, hx⟩ := h
 exact ⟨b, c, by rw [hv, hl], by omega, hb, fun j hj => hx j (by omega)⟩
theorem size_of (o : ByteArray) (l : List UInt8) (h : o.data.toList = l) : o.size = l.length := by rw [← h, Array.length_toList]; rfl
theorem refsum64 (w : World) (s : ByteArray) (hs : s.size ≤ 1000000) :
 Calls Tryz.prog 66 #[.string s, .int .i64 64] w fun e w' => e = .returned (.string ⟨(sha 64 s.data.toList).toArray⟩) ∧ Below w.heap.size w w' := by
 have hz1 : zeros1 64 s.size < 128 := by unfold zeros1; omega
 obtain ⟨Z, hZ⟩ : ∃ Z, zeros1 64 s.size = Z := ⟨_, rfl⟩
 rw [hZ] at hz1
 have HZ := ϕ hZ
 clear hZ
 have hq0 : ¬ 9223372036854775807 < s.size + 1 := by omega
 have HLN := ϕ (show s.data.toList.length = s.size from Array.length_toList)
 go_enter Tryz.func66, Tryz.ntmps66
 go_wp2_with (refine conv_string rfl 25 5 9 _ rfl Tryz.underlying25 Tryz.underlying5 Tryz.underlying9 _ 0 1 1 [128] rfl rfl (one_byte _ _ _ _ rfl) ?_)
 have HB0 := ϕ (show Below w.heap.size w (w.alloc (.cells #[.int .u8 128] 5)) from (Below.refl _ _).alloc (Nat.le_refl _) _)
 have HT0 := ϕ (show (s ++ (⟨#[128]⟩ : ByteArray)).data.toList = s.data.toList ++ ([128] ++ List.replicate 0 0) from bytes_append _ _)
 clear hq0
 go_loopw [0] (fun t wr => ∃ (j : Nat) (o : ByteArray), j ≤ Z ∧ t = .string o ∧ o.data.toList = s.data.toList ++ ([128] ++ List.replicate j 0) ∧ Below w.heap.size w wr) (fun t _ => s.size + 1 + Z - strLen t)
 case atStart => exact ⟨0, _, Nat.zero_le _, rfl, HT0.out, HB0.out⟩
 case round =>
  obtain ⟨j, o, hj, rfl, ho, hb⟩ := hrel
  have hsz : o.size = s.size + 1 + j := by rw [size_of _ _ ho, List.length_append, List.length_append, List.length_replicate, HLN.out]; simp; omega
  have hszl : o.size ≤ 1000200 := by omega
  have HO := ϕ ho
  have HSZ := ϕ hsz
  have HB := ϕ hb
  clear ho hb hsz HB0 HT0
  have hsm : (o.size : Int) + 16 < 9223372036854775807 := by omega
  have hz := zeros1_test64 s.size j (by rw [HZ.out]; exact hj)
  rw [HZ.out, show s.size + 1 + j + 16 = o.size + 16 by rw [HSZ.out]] at hz
  by_cases hjZ : j < Z
  · have hne : ¬ (o.size + 16) % 128 = 0 := fun h => by have := hz.1 h; omega
    have ht1 : (((o.size : Int) + 16) % 128 == 0) = false := by simp; omega
    have ht2 : (((o.size : Int) + 16) % 128 != 0) = true := by simp; omega
    clear hz hne
    have hq1 : ¬ 9223372036854775807 < o.size + 1 := by omega
    go_wp2_with (refine conv_string rfl 25 5 9 _ rfl Tryz.underlying25 Tryz.underlying5 Tryz.underlying9 _ 0 1 1 [0] rfl rfl (one_byte _ _ _ _ rfl) ?_)
    go_roundw
    case rel => exact ⟨j + 1, _, by omega, rfl, push_zero _ _ _ HO.out, HB.out.alloc HB.out.size _⟩
    case measure =>
     show s.size + 1 + Z - (o ++ (⟨#[0]⟩ : ByteArray)).size < s.size + 1 + Z - o.size
     rw [ByteArray.size_append, HSZ.out]; show _ - (_ + 1) < _; omega
  · obtain rfl : j = Z := by omega
    have he : (o.size + 16) % 128 = 0 := hz.2 rfl
    have ht1 : (((o.size : Int) + 16) % 128 == 0) = true := by simp; omega
    have ht2 : (((o.size : Int) + 16) % 128 != 0) = false := by simp; omega
    clear hz he hjZ
    go_wp2_with fail
    clear ht1 ht2 hsm
    obtain ⟨wo, rfl⟩ : ∃ wo : World, wo = wr := ⟨_, rfl⟩
    go_loopw [0, 7] (fun t i wr => ∃ (k : Nat) (o : ByteArray), k ≤ 16 - 8 ∧ i = .int .i64 ((8 + k : Nat) : Int) ∧ t = .string o ∧ o.data.toList = s.data.toList ++ ([128] ++ List.replicate (j + k) 0) ∧ Below w.heap.size w wr) (fun _ i _ => 16 - (intOf i).toNat)
    case atStart => exact ⟨0, _, Nat.zero_le _, rfl, rfl, HO.out, HB.out⟩
    case round =>
     obtain ⟨k, o2, hk, rfl, rfl, ho2, hb2⟩ := hrel
     have hsz2 : o2.size = s.size + 1 + (j + k) := by rw [size_of _ _ ho2, List.length_append, List.length_append, List.length_replicate, HLN.out]; simp; omega
     have hszl2 : o2.size ≤ 1000300 := by omega
     have HO2 := ϕ ho2
     have HSZ2 := ϕ hsz2
     have HB2 := ϕ hb2
     clear ho2 hb2 hsz2
     have hq1 : ¬ 9223372036854775807 < o2.size + 1 := by omega
     by_cases hkw : k < 16 - 8
     · have hd : decide (((8 + k : Nat) : Int) < 16) = true := by simp; omega
       go_wp2_with (refine conv_string rfl 25 5 9 _ rfl Tryz.underlying25 Tryz.underlying5 Tryz.underlying9 _ 0 1 1 [0] rfl rfl (one_byte _ _ _ _ rfl) ?_)
       go_roundw
       case rel => exact ⟨k + 1, _, by omega, by go_num, rfl, push_zero _ _ _ HO2.out, HB2.out.alloc HB2.out.size _⟩
       case measure => simp [intOf]; omega
     · obtain rfl : k = 16 - 8 := by omega
       go_wp2_with fail
       have HM0 := ϕ (show o2.data.toList = s.data.toList ++ ([128] ++ List.replicate (zeros 64 s.size) 0) by rw [HO2.out, zeros_eq 64 s.size (by decide), HZ.out])
       have hszw := HB2.out.size
       have HOT := ϕ (show Owns (wr.alloc (.cells #[] 5)) w.heap.size 5 (.slice (some ⟨wr.heap.size, 0, none⟩) 0 0) (bv (beBytes 0 (s.size * 8))) from Owns.new wr _ _ [] hszw (by decide))
       have HBT := ϕ (HB2.out.alloc hszw (.cells #[] 5))
       clear hkw hk hszw
       obtain ⟨wo, rfl⟩ : ∃ wo : World, wo = wr := ⟨_, rfl⟩
       go_loopw [6, 8, 9] (fun q v i wr => ∃ k x : Nat, k ≤ 8 ∧ i = .int .i64 k ∧ q = .int .i64 x ∧ x = s.size * 8 / 256 ^ k ∧ Owns wr w.heap.size 5 v (bv (beBytes k (s.size * 8))) ∧ Below w.heap.size w wr) (fun _ _ i _ => 8 - (intOf i).toNat)
       case atStart => exact ⟨0, s.size * 8, by decide, rfl, by go_num, by simp, HOT.out, HBT.out⟩
       case round =>
        obtain ⟨k, x, hk, rfl, rfl, hx, hO, hb⟩ := hrel
        have hxl : x ≤ 8000000 := by rw [hx]; exact Nat.le_trans (Nat.div_le_self _ _) (by omega)
        obtain ⟨A, c, rfl, hR, hc⟩ := hO.form
        rw [bv_length, beBytes_length] at hO hc ⊢
        have HX := ϕ hx
        have HOk := ϕ hO
        have HR := ϕ hR
        have HB := ϕ hb
        have hszb := hb.size
        clear hx hO hR hb HOT HBT
        by_cases hk8 : k < 8
        · have hd : decide ((k : Int) < 8) = true := by simp; omega
          go_wp2_with (at_builtin
                       go_loud (refine app rfl _ _ _ rfl Tryz.underlying25 infoU8 rfl (by decide) (Owns.new wr w.heap.size 5 [.int .u8 ((x : Int) % 256)] hszb (show 1 ≤ maxLen by decide)) rfl rfl (by rw [bv_length, beBytes_length]) (HR.out.below ((Below.refl _ _).alloc (Nat.le_refl _) _)) (bv_cells _) ?_ ?_ ?_)
                       · simp; omega
                       · simp; omega
                       intro v' w3 hO' hg' _
                       have HO' := ϕ (hO'.cast (be_snoc k (s.size * 8) x HX.out))
                       have HB' := ϕ ((HB.out.alloc hszb _).grown hg' (by simp; omega) (fun k hk => by cases hk; exact hszb))
                       clear hO' hg')
          go_roundw
          case rel =>
           first
            | exact ⟨k + 1, x / 256, by omega, by go_num, by go_num, div_next _ _ _ HX.out, HO'.out, HB'.out⟩
            | ((repeat apply Exists.intro); refine ⟨?_, rfl⟩; exact ⟨k + 1, x / 256, by omega, by go_num, by go_num, div_next _ _ _ HX.out, HO'.out, HB'.out⟩)
          case measure => simp [intOf]; omega
        · obtain rfl : k = 8 := by omega
          have HMT := ϕ (padded_of 64 s o2 HM0.out)
          have hq2 : ¬ 9223372036854775807 < o2.size + 8 := by omega
          have hms : (o2 ++ (⟨(beBytes 8 (s.size * 8)).toArray⟩ : ByteArray)).size ≤ 1000400 := by
           rw [ByteArray.size_append]; show o2.size + (beBytes 8 (s.size * 8)).toArray.size ≤ _; rw [List.size_toArray, beBytes_length]; omega
          have hbs : (⟨(beBytes 8 (s.size * 8)).toArray⟩ : ByteArray).size = 8 := by show (beBytes 8 (s.size * 8)).toArray.size = 8; rw [List.size_toArray, beBytes_length]
          have HMS := ϕ hms
          clear hms
          go_wp2_with (first
           | (refine str rfl 25 5 9 _ rfl Tryz.underlying25 Tryz.underlying5 Tryz.underlying9 HOk.out rfl ?_; skip)
           | (go_at_call 93; refine (refstart _).mono ?_; rintro e w4 ⟨rfl, rfl⟩; have HR4 := ϕ (show Row (wr.alloc (.cells (u64s firstL) 46)) wr.heap.size 46 firstL from Rg.Blk.new _ _ _); have HB4 := ϕ (HB.out.alloc hszb (.cells (u64s firstL) 46)); generalize wr.alloc (.cells (u64s firstL) 46) = w4 at *))
          generalize (o2 ++ (⟨(beBytes 8 (s.size * 8)).toArray⟩ : ByteArray)) = m at *
          have HML := ϕ (padded_length64 s.data.toList)
          obtain ⟨pd, hpd⟩ : ∃ pd, pd = padded 64 s.data.toList := ⟨_, rfl⟩
          have HPD := ϕ hpd
          rw [← hpd] at HMT HML
          clear hpd
          have HMT2 := ϕ HMT.out.symm
          have HmM := ϕ (show m.size = pd.length by rw [← HMT.out, Array.length_toList]; rfl)
          obtain ⟨K, hK⟩ : ∃ K, m.size = K * 128 := ⟨m.size / 128, by have := HML.out; rw [← HmM.out] at this; omega⟩
          have HK := ϕ hK
          have hKl : K * 128 ≤ 1000400 := by rw [← hK]; exact HMS.out
          clear hK hq2 hbs hk8 hk hxl hc hszl2 hq1 hszl hj hz1 hszb
          obtain ⟨gb, hgb⟩ : ∃ gb, gb = wr.heap.size := ⟨_, rfl⟩
          rw [← hgb] at HR4 ⊢
          have hgw : w.heap.size ≤ gb := by rw [hgb]; exact HB.out.size
          clear hgb
          have HA5 := ϕ (show At8 w4 gb (hashTo 64 m.data.toList 0) from ⟨HR4.out.lt, fun j hj => HR4.out.cell j hj⟩)
          have HB5 := HB4
          clear HR4 HB4
          generalize w4 = w5 at *
          clear HOk HR HB HB2 HO2 HO HX HM0 HMT HSZ HSZ2
          obtain ⟨wo, rfl⟩ : ∃ wo : World, wo = w5 := ⟨_, rfl⟩
          go_loopw [10, 12] (fun v i wr => ∃ k b c p : Nat, k ≤ K ∧ p = k * 128 ∧ i = .int .i64 p ∧ v = .slice (some ⟨b, 0, none⟩) 8 c ∧ 8 ≤ c ∧ At8 wr b (hashTo 64 m.data.toList k) ∧ Below w.heap.size w wr) (fun _ i _ => 1000500 - (intOf i).toNat)
          case atStart => exact ⟨0, gb, 8, 0, Nat.zero_le _, by simp, rfl, rfl, by decide, HA5.out, HB5.out⟩
          case round =>
           obtain ⟨k, b, c, p, hk, hp, rfl, rfl, hc, hA, hb⟩ := hrel
           have HA := ϕ hA
           have HB := ϕ hb
           have HP := ϕ hp
           have HC := ϕ hc
           have hpl : p ≤ K * 128 := by rw [hp]; exact Nat.mul_le_mul_right _ hk
           have hpm : p ≤ 1000400 := by omega
           clear hA hb hp hc HA5 HB5
           by_cases hkK : k < K
           · have hlt : k * 128 + 128 ≤ K * 128 := by have : (k + 1) * 128 ≤ K * 128 := Nat.mul_le_mul_right _ hkK; omega
             have hms : p + 128 ≤ m.size := by rw [HK.out, HP.out]; exact hlt
             have hd : decide ((p : Int) < m.size) = true := by simp; omega
             clear hlt hpl hKl
             have hW := words8 HA.out (hashTo_length _ _ _) HC.out
             have HW := ϕ hW
             have HLT := ϕ (fun i => hashTo_lt 64 (by decide) m.data.toList k i)
             clear hW
             have HES := ϕ (show (m.extract p (p + 128)).size = 128 by rw [ByteArray.size_extract]; omega)
             have HET := ϕ (show mixed 64 (m.extract p (p + 128)).data.toList (hashTo 64 m.data.toList k) = hashTo 64 m.data.toList (k + 1) by rw [extract_mid, HP.out]; rfl)
             have hI1 : (p : Int) ≤ (p : Int) + 128 := by omega
             have hI2 : (p : Int) + 128 ≤ (m.size : Int) := by omega
             have hI3 : ((p : Int) + 128).toNat = p + 128 := by omega
             go_wp2_with (go_at_call 94; refine (refblock64 _ _ _ _ HES.out HW.out (hashTo_length _ _ _) HLT.out).mono ?_; rintro e w7 ⟨v7, rfl, hw7, hb7⟩; have HW7 := ϕ (HET.out ▸ hw7); have HB7 := ϕ (HB.out.trans (hb7.mono HB.out.size)); clear hw7 hb7)
             obtain ⟨b7, c7, rfl, hc7, hA7⟩ := at8_words HW7.out (hashTo_length _ _ _)
             have HA7 := ϕ hA7
             have HC7 := ϕ hc7
             clear hA7 hc7
             go_roundw
             case rel =>
              first
               | exact ⟨k + 1, b7, c7, p + 128, by omega, by have := HP.out; omega, by go_num, rfl, HC7.out, HA7.out, HB7.out⟩
               | ((repeat apply Exists.intro); refine ⟨?_, rfl⟩; exact ⟨k + 1, b7, c7, p + 128, by omega, by have := HP.out; omega, by go_num, rfl, HC7.out, HA7.out, HB7.out⟩)
             case measure => simp [intOf]; omega
           · obtain rfl : k = K := by omega
             have hd : ¬ p < m.size := by have := HP.out; have := HK.out; omega
             go_wp2_with fail
             clear hd hpl hKl hpm hk hkK
             have hszb := HB.out.size
             have HO8 := ϕ (show Owns (wr.alloc (.cells #[] 5)) wr.heap.size 5 (.slice (some ⟨wr.heap.size, 0, none⟩) 0 0) (bv (outBytes 64 ((hashTo 64 m.data.toList k).take 0))) from Owns.new wr _ _ [] (Nat.le_refl _) (by decide))
             have HB8 := ϕ (HB.out.alloc hszb (.cells #[] 5))
             have HA8 := ϕ (HA.out.below ((Below.refl _ _).alloc (Nat.le_refl _) (.cells #[] 5)))
             have hbl := HA.out.1
             have HHL := ϕ (hashTo_length 64 m.data.toList k)
             have HLT := ϕ (fun i => hashTo_lt 64 (by decide) m.data.toList k i)
             obtain ⟨hh, hhh⟩ : ∃ hh, hh = hashTo 64 m.data.toList k := ⟨_, rfl⟩
             have HHH := ϕ hhh
             rw [← hhh] at HO8 HA8 HHL HLT
             clear hhh HA HB
             obtain ⟨wb, hwb⟩ : ∃ wb, wb = wr.heap.size := ⟨_, rfl⟩
             have HWB := ϕ hwb
             rw [← hwb] at HO8 hszb hbl ⊢
             have HW8 := ϕ (show wb ≤ (wr.alloc (.cells #[] 5)).heap.size by rw [HWB.out]; simp)
             clear hwb
             obtain ⟨wo, rfl⟩ : ∃ wo : World, wo = wr := ⟨_, rfl⟩
             go_loopw [13, 15, 16, 101] (fun v _ _ i wr => ∃ j : Nat, j ≤ 8 ∧ i = .int .i64 j ∧ Owns wr wb 5 v (bv (outBytes 64 (hh.take j))) ∧ wb ≤ wr.heap.size ∧ At8 wr b hh ∧ Below w.heap.size w wr) (fun _ _ _ i _ => 8 - (intOf i).toNat)
             case atStart => exact ⟨0, by decide, rfl, HO8.out, HW8.out, HA8.out, HB8.out⟩
             case round =>
              obtain ⟨j, hj, rfl, hO, hw9, hA, hb⟩ := hrel
              have HO9 := ϕ hO
              have HA9 := ϕ hA
              have HB9 := ϕ hb
              clear hO hA hb HO8 HB8 HA8 HW8
              by_cases hj8 : j < 8
              · have hd : decide ((j : Int) < 8) = true := by simp; omega
                have hc := HA9.out.2 j hj8
                have hij : (j : Int) < 8 := by omega
                go_wp2_with fail
                clear hd hc hij
                have hx := HLT.out j
                have HSN := ϕ (show bv (outBytes 64 (hh.take (j + 1))) = bv (outBytes 64 (hh.take j)) ++ bv (beBytes 8 (nth hh j)) from out_snoc 64 hh j (by rw [HHL.out]; exact hj8))
                have HO10 := ϕ (show Owns wr wb 5 _ (bv (outBytes 64 (hh.take j)) ++ bv ((beBytes 8 (nth hh j)).take 0)) from HO9.out.cast (by rw [List.take_zero]; exact (List.append_nil _).symm))
                have hbl9 : (bv (outBytes 64 (hh.take j))).length ≤ 64 := by rw [bv_length, outBytes_length, List.length_take]; have := HHL.out; omega
                generalize hxx : nth hh j = xx at *
                have HXX := ϕ hxx
                clear hxx
                obtain ⟨wo2, rfl⟩ : ∃ wo2 : World, wo2 = wr := ⟨_, rfl⟩
                go_loopw [13, 16] (fun v i wr => ∃ l : Nat, l ≤ 8 ∧ i = .int .i64 (7 - (l : Int)) ∧ Owns wr wb 5 v (bv (outBytes 64 (hh.take j)) ++ bv ((beBytes 8 xx).take l)) ∧ wb ≤ wr.heap.size ∧ At8 wr b hh ∧ Below w.heap.size w wr) (fun _ i _ => (intOf i + 1).toNat)
                case atStart => exact ⟨0, by decide, rfl, HO10.out, hw9, HA9.out, HB9.out⟩
                case round =>
                 obtain ⟨l, hl, rfl, hO, hw11, hA, hb⟩ := hrel
                 have HO11 := ϕ hO
                 have HA11 := ϕ hA
                 have HB11 := ϕ hb
                 clear hO hA hb HO10 HA9 HB9
                 by_cases hl4 : l < 8
                 · have hi0 : (0 : Int) ≤ 7 - (l : Int) := by omega
                   have hi1 : (0 : Int) ≤ 8 * (7 - (l : Int)) := by omega
                   have hm : min (8 * (7 - (l : Int))).toNat 64 = 8 * (7 - l) := by omega
                   have HBT := ϕ (be_take 8 xx l hl4 (8 * (7 - l)) (by omega))
                   have hll : (bv ((beBytes 8 xx).take l)).length ≤ 8 := by rw [bv_length, List.length_take]; omega
                   go_wp2_with (at_builtin
                                refine app1 rfl _ _ _ rfl Tryz.underlying25 infoU8 rfl (by decide) HO11.out rfl rfl rfl ?_ hw11 ?_
                                · rw [List.length_append]; omega
                                intro v' w12 hO' hg' hat
                                rw [List.append_assoc, HBT.out] at hO'
                                have HO' := ϕ hO'
                                have hw12 : wb ≤ w12.heap.size := Nat.le_trans hw11 hg'.size
                                have HB' := ϕ (HB11.out.grown hg' HB11.out.size (HO11.out.ge hszb))
                                have HA' := ϕ (HA11.out.grown hg' (fun e => by have := HO11.out.ge (Nat.le_refl _) b e.symm; omega))
                                clear hO' hg' hat)
                   go_roundw
                   case rel =>
                    first
                     | exact ⟨l + 1, by omega, by go_num, HO'.out, hw12, HA'.out, HB'.out⟩
                     | ((repeat apply Exists.intro); refine ⟨?_, rfl⟩; exact ⟨l + 1, by omega, by go_num, HO'.out, hw12, HA'.out, HB'.out⟩)
                   case measure => simp [intOf]; omega
                 · obtain rfl : l = 8 := by omega
                   go_wp2_with fail
                   have HOX := ϕ (show Owns wr wb 5 _ (bv (outBytes 64 (hh.take (j + 1)))) from HO11.out.cast (by rw [List.take_of_length_le (l := beBytes 8 xx) (i := 8) (Nat.le_of_eq (beBytes_length _ _))]; exact HSN.out.symm))
                   go_roundw
                   case rel =>
                    first
                     | exact ⟨j + 1, by omega, by go_num, HOX.out, hw11, HA11.out, HB11.out⟩
                     | ((repeat apply Exists.intro); refine ⟨?_, rfl⟩; exact ⟨j + 1, by omega, by go_num, HOX.out, hw11, HA11.out, HB11.out⟩)
                   case measure => simp [intOf]; omega
              · obtain rfl : j = 8 := by omega
                have HOF := ϕ (HO9.out.cast (by rw [List.take_of_length_le (by rw [HHL.out]; exact Nat.le_refl _)]))
                go_wp2_with (refine str rfl 25 5 9 _ rfl Tryz.underlying25 Tryz.underlying5 Tryz.underlying9 HOF.out rfl ?_; skip)
                go_ret
                refine ⟨?_, HB9.out⟩
                have hsh : sha 64 s.data.toList = outBytes 64 hh := by
                 unfold sha
                 rw [HHH.out, ← HPD.out, HMT2.out, Array.length_toList]
                 show outBytes 64 (hashTo 64 m.data.toList (m.size / (2 * 64))) = _
                 rw [HK.out, Nat.mul_div_cancel _ (by decide)]
                rw [hsh]; rfl
@[irreducible] def shaS (W : Nat) (s : ByteArray) : ByteArray := ⟨(sha W s.data.toList).toArray⟩
theorem shaS_eq (W : Nat) (s : ByteArray) : (⟨(sha W s.data.toList).toArray⟩ : ByteArray) = shaS W s := by unfold shaS; rfl
theorem RefSum512_any (w : World) (s : ByteArray) (hs : s.size ≤ 1000000) : Calls Tryz.prog 31 #[.string s] w fun e w' => e = .returned (.string (shaS 64 s)) ∧ Below w.heap.size w w' := by
 go_enter Tryz.func31, Tryz.ntmps31
 go_wp2_with (go_at_call 66; refine (refsum64 _ _ hs).mono ?_; rintro e w1 ⟨rfl, hb1⟩; have HB1 := ϕ hb1; clear hb1)
 go_ret
 exact ⟨by rw [← shaS_eq]; rfl, HB1.out⟩
end Go.Proofs.YtfpcelmekfdafaaGreatDoor.Sha
namespace Go.Proofs.YtfpcelmekfdafaaGreatDoor.Rf
open Go.RowKit Go.Proofs.YtfpcelmekfdafaaGreatDoor.Ow Go.Proofs.YtfpcelmekfdafaaGreatDoor.Kx Go.Proofs.YtfpcelmekfdafaaGreatDoor.Dg Go.Proofs.YtfpcelmekfdafaaGreatDoor.Ed
theorem b_num : (4 : F) * Ed.inv 5 = byy := by decide +kernel
theorem b_enc : toLe 32 byy.val = enc base := enc_0 (p := base) (by decide +kernel)
theorem base8_any (w : World) : Calls Tryz.prog 26 #[] w fun e w' => (∃ u, e = .returned u ∧ PQ w' u base) ∧ Below w.heap.size w w' := by
 obtain ⟨SB, hSB⟩ : ∃ S : ByteArray, (⟨(toLe 32 byy.val).toArray⟩ : ByteArray) = S := ⟨_, rfl⟩
 obtain ⟨x4, h4⟩ : ∃ x : F, x = 4 := ⟨_, rfl⟩
 obtain ⟨x5, h5⟩ : ∃ x : F, x = 5 := ⟨_, rfl⟩
 obtain ⟨y0, hy0⟩ : ∃ x : F, x = byy := ⟨_, rfl⟩
 have HS4 := ϕ (fun W : World => show Calls Tryz.prog 41 #[.int .i64 4] W fun e w' => (∃ u, e = .returned u ∧ FR w' u x4) ∧ Below W.heap.size W w' from h4 ▸ Small_any W 4 (by omega))
 have HS5 := ϕ (fun W : World => show Calls Tryz.prog 41 #[.int .i64 5] W fun e w' => (∃ u, e = .returned u ∧ FR w' u x5) ∧ Below W.heap.size W w' from h5 ▸ Small_any W 5 (by omega))
 have HMU := ϕ (fun (W : World) (v1 v2 : Value) (g1 : FR W v1 x4) (g2 : FR W v2 (Ed.inv x5)) => show Calls Tryz.prog 40 #[v1, v2] W fun e w' => (∃ u, e = .returned u ∧ FR w' u y0) ∧ Below W.heap.size W w' from by
  have g := mul8_any W v1 v2 x4 (Ed.inv x5) g1 g2
  rw [show x4 * Ed.inv x5 = y0 from by rw [h4, h5, hy0]; exact b_num] at g
  exact g)
 have HBT := ϕ (fun (W : World) (v : Value) (g : FR W v y0) => show Calls Tryz.prog 57 #[v] W fun e w' => e = .returned (.string SB) ∧ Below W.heap.size W w' from by
  have g := bytes_any W v y0 g
  rw [hy0, hSB] at g
  exact g)
 have HSBB := ϕ hSB
 have HSZ := ϕ (show SB.size = 32 from by rw [← hSB]; show (toLe 32 byy.val).toArray.size = 32; rw [List.size_toArray, toLe_len])
 have HDB := ϕ (show dec SB.data.toList = some base from by rw [← hSB]; show dec (toLe 32 byy.val) = _; rw [b_enc, dec_enc])
 clear hSB h4 h5 hy0
 go_enter Tryz.func26, Tryz.ntmps26
 go_upto_region 1 with fail
 obtain ⟨rb, hrb⟩ : ∃ n, w.heap.size = n := ⟨_, rfl⟩
 have HB := ϕ (show Below w.heap.size w (w.alloc (.cells #[.slice none 0 0, .slice none 0 0, .slice none 0 0] 40)) from (Below.refl _ _).alloc (Nat.le_refl _) _)
 have HRB := ϕ (show BK (w.alloc (.cells #[.slice none 0 0, .slice none 0 0, .slice none 0 0] 40)) rb 40 #[.slice none 0 0, .slice none 0 0, .slice none 0 0] from Rg.Blk.newAt hrb.symm _ _)
 have HRW := ϕ (show w.heap.size ≤ rb from by omega)
 try rw [hrb]
 clear hrb
 generalize (w.alloc (.cells #[.slice none 0 0, .slice none 0 0, .slice none 0 0] 40)) = Y at *
 have tk1 := True.intro
 go_upto_region 4 with (first
  | (have _t := tk1; go_at_call 41; refine (HS4.out Y).mono ?_; rintro e w1x ⟨⟨v4, rfl, hv⟩, hb⟩; have HRB := ϕ (HRB.out.below hb); have H4 := ϕ hv; have HB := tm HB hb; clear hb hv _t tk1; have tk2 := True.intro)
  | (have _t := tk2; go_at_call 41; refine (HS5.out w1x).mono ?_; rintro e w2x ⟨⟨v5, rfl, hv⟩, hb⟩; have HRB := ϕ (HRB.out.below hb); have H4 := ϕ (H4.out.below hb); have H5 := ϕ hv; have HB := tm HB hb; clear hb hv _t tk2; have tk3 := True.intro)
  | (have _t := tk3; go_at_call 43; refine (invert_any w2x _ _ H5.out).mono ?_; rintro e w3x ⟨⟨vi, rfl, hv⟩, hb⟩; have HRB := ϕ (HRB.out.below hb); have H4 := ϕ (H4.out.below hb); have HI := ϕ hv; have HB := tm HB hb; clear hb hv _t tk3; have tk4 := True.intro)
  | (have _t := tk4; go_at_call 40; refine (HMU.out w3x _ _ H4.out HI.out).mono ?_; rintro e w4x ⟨⟨vy, rfl, hv⟩, hb⟩; have HRB := ϕ (HRB.out.below hb); have HY := ϕ hv; have HB := tm HB hb; clear hb hv _t tk4; have tk5 := True.intro)
  | (have _t := tk5; go_at_call 57; refine (HBT.out w4x _ HY.out).mono ?_; rintro e w5x ⟨rfl, hb⟩; have HRB := ϕ (HRB.out.below hb); have HB := tm HB hb; clear hb  _t tk5; have tk6 := True.intro)
  | (have _t := tk6; go_at_call 17; refine (D_any w5x).mono ?_; rintro e w6x ⟨⟨vd, rfl, hv⟩, hb⟩; have HRB := ϕ (HRB.out.below hb); have HD := ϕ hv; have HB := tm HB hb; clear hb hv _t tk6; have tk7 := True.intro)
  | (have _t := tk7; go_at_call 16; refine (read8_any w6x _ SB HD.out HSZ.out).mono ?_; rintro e w7x ⟨⟨u, rfl, hf, hp⟩, hb⟩; have HRB := ϕ (HRB.out.below hb); have HB := tm HB hb; have HPQ := ϕ (hp base HDB.out); obtain ⟨oA, on, oc, oB, om, od, oC, ok, oe, hu⟩ := hf; subst hu; clear hp hb  _t tk7; have tk8 := True.intro))
 obtain ⟨qb, hqb⟩ : ∃ n, w7x.heap.size = n := ⟨_, rfl⟩
 have HA9 := ϕ (show Below w7x.heap.size w7x (w7x.alloc (.cells #[.slice oA on oc, .slice oB om od, .slice oC ok oe] 40)) from (Below.refl _ _).alloc (Nat.le_refl _) _)
 have HPB := ϕ (show BK (w7x.alloc (.cells #[.slice oA on oc, .slice oB om od, .slice oC ok oe] 40)) qb 40 #[.slice oA on oc, .slice oB om od, .slice oC ok oe] from Rg.Blk.newAt hqb.symm _ _)
 have HPQ := ϕ (HPQ.out.below HA9.out)
 have HRB := ϕ (HRB.out.below HA9.out)
 have HB := ϕ (HB.out.trans (HA9.out.mono HB.out.size))
 try rw [hqb]
 clear hqb HA9
 generalize (w7x.alloc (.cells #[.slice oA on oc, .slice oB om od, .slice oC ok oe] 40)) = Z at *
 go_wp2_with (first
  | ((with_reducible refine Kx.gate_ ?_); refine Cv.load_cells rfl 40 _ rfl qb 0 rfl #[.slice oA on oc, .slice oB om od, .slice oC ok oe] _ (fun j v hv => by rw [Nat.zero_add]; exact HPB.out.cell j hv) Tryz.underlying40 rfl (by kernel_rfl) ?_; skip)
  | ((with_reducible refine Kx.gate_ ?_); refine Cv.store_blk rfl 40 _ _ rfl rb #[.slice oA on oc, .slice oB om od, .slice oC ok oe] #[.slice none 0 0, .slice none 0 0, .slice none 0 0] 40 rfl rfl HRB.out (by kernel_rfl) rfl (by simp [Value.oneCell']) ?_; intro V9 hV hgV; have HVV9 := ϕ hV; have HGV9 := ϕ hgV; clear hV hgV))
 refine bodyPost_ret (v := .agg #[.slice oA on oc, .slice oB om od, .slice oC ok oe])
  (results_cell_row Tryz.results26 _ _ rb 40 _ (0, 0) _ rfl HVV9.out Tryz.underlying40 rfl (by kernel_rfl)) rfl ?_
 have HB9 := ϕ (show Below w.heap.size w V9 from HB.out.grown HGV9.out HB.out.size (fun j e => by cases e; exact HRW.out))
 exact ⟨⟨_, rfl, HPQ.out.grown HGV9.out HRB.out nil3⟩, HB9.out⟩
end Go.Proofs.YtfpcelmekfdafaaGreatDoor.Rf
namespace Go.Proofs.YtfpcelmekfdafaaGreatDoor.Ed
open Go.Proofs.YtfpcelmekfdafaaGreatDoor.Nt Go.Proofs.YtfpcelmekfdafaaGreatDoor.Kx
/-- a digest of 64 bytes: the scalar's bytes -/
def secA (h : List UInt8) : List UInt8 := clampB (h.take 32)
def dig5 (s : List UInt8) : List UInt8 := Sha.sha 64 s
theorem dig5_len (s : List UInt8) : (dig5 s).length = 64 := Sha.sha_length 64 (by decide) _
/-- a seed's number, and its key -/
def aN (seed : List UInt8) : Nat := leN (secA (dig5 seed))
def pubP (seed : List UInt8) : Pt := Pt.mul (aN seed) base
def pub (seed : List UInt8) : List UInt8 := enc (pubP seed)
/-- a digest, modulo the order -/
def red (s : List UInt8) : Nat := leN (dig5 s) % Ed.L
def rN (seed m : List UInt8) : Nat := red ((dig5 seed).drop 32 ++ m)
def rP (seed m : List UInt8) : Pt := Pt.mul (rN seed m) base
def sN (seed key m : List UInt8) : Nat := (red (enc (rP seed m) ++ key ++ m) * aN seed + rN seed m) % Ed.L
def sig (seed key m : List UInt8) : List UInt8 := enc (rP seed m) ++ toLe 32 (sN seed key m)
/-- does it fit? -/
def verA (key m r s : List UInt8) (A : Pt) : Bool := decide (leN s < Ed.L) && decide (enc ((Pt.mul (leN s) base).add (Pt.mul (red (r ++ key ++ m)) A.neg)) = r)
def ver (key m r s : List UInt8) : Bool := (dec key).elim false (verA key m r s)
theorem ver_none {key m r s : List UInt8} (h : dec key = none) : ver key m r s = false := by unfold ver; rw [h]; rfl
theorem ver_someA {key m r s : List UInt8} {A : Pt} (h : dec key = some A) : ver key m r s = verA key m r s A := by unfold ver; rw [h]; rfl
theorem ver_some {key m r s : List UInt8} {A : Pt} (h : dec key = some A) : ver key m r s = (decide (leN s < Ed.L) && decide (enc ((Pt.mul (leN s) base).add (Pt.mul (red (r ++ key ++ m)) A.neg)) = r)) := by rw [ver_someA h]; unfold verA; rfl
end Go.Proofs.YtfpcelmekfdafaaGreatDoor.Ed
namespace Go.Proofs.YtfpcelmekfdafaaGreatDoor.Rf
open Go.RowKit Go.Proofs.YtfpcelmekfdafaaGreatDoor.Ow Go.Proofs.YtfpcelmekfdafaaGreatDoor.Kx Go.Proofs.YtfpcelmekfdafaaGreatDoor.Dg Go.Proofs.YtfpcelmekfdafaaGreatDoor.Ed
theorem b8 (b : UInt8) : (b &&& 248).toNat = b.toNat / 8 * 8 := by
 have h : ∀ x : BitVec 8, (x &&& 248).toNat = x.toNat / 8 * 8 := by decide +kernel
 exact h b.toBitVec
theorem clamp_sets {l : List UInt8} (hl : l.length = 32) {a b : UInt8} (ha : l[0]? = some a) (hb : l[31]? = some b) : clampB l = (l.set 0 (a &&& 248)).set 31 (b &&& 63 ||| 64) := by
 unfold clampB
 simp only
 have e1 : l.getD 0 0 = a := by rw [List.getD_eq_getElem?_getD, ha]; rfl
 have e2 : (l.set 0 (a &&& 248)).getD 31 0 = b := by rw [List.getD_eq_getElem?_getD, List.getElem?_set_ne (by omega), hb]; rfl
 rw [e1, e2]
def bs (l : List UInt8) : ByteArray := ⟨l.toArray⟩
theorem bs_list (l : List UInt8) : (bs l).data.toList = l := rfl
theorem bs_size (l : List UInt8) : (bs l).size = l.length := by show l.toArray.size = _; rw [List.size_toArray]
theorem bs_of (S : ByteArray) : bs S.data.toList = S := by apply ByteArray.ext; rfl
theorem bs_app (a b : List UInt8) : bs a ++ bs b = bs (a ++ b) := by
 apply ByteArray.ext; apply Array.toList_inj.1
 show (bs a ++ bs b).data.toList = a ++ b
 rw [Sha.bytes_append]; rfl
theorem shaS_bs (S : ByteArray) : Sha.shaS 64 S = bs (dig5 S.data.toList) := (Sha.shaS_eq 64 S).symm
theorem bs_extract (l : List UInt8) (a b : Nat) : (bs l).extract a b = bs ((l.take b).drop a) := by
 apply ByteArray.ext; apply Array.toList_inj.1
 show ((bs l).extract a b).data.toList = (l.take b).drop a
 rw [ByteArray.data_extract, Array.toList_extract, List.extract_eq_take_drop, bs_list, List.drop_take]
/-- the contracts of this level, over lists -/
theorem sum_bs (w : World) (l : List UInt8) (h : l.length ≤ 100000) : Calls Tryz.prog 31 #[.string (bs l)] w fun e w' => e = .returned (.string (bs (dig5 l))) ∧ Below w.heap.size w w' := by
 have h1 := Sha.RefSum512_any w (bs l) (by rw [bs_size]; omega)
 rw [shaS_bs] at h1
 exact h1
theorem of_bs (w : World) (l : List UInt8) (h : l.length ≤ 1000) : Calls Tryz.prog 25 #[.string (bs l)] w fun e w' => (∃ u, e = .returned u ∧ Ns w' u (dig (leN l))) ∧ Below w.heap.size w w' := Dg.Of_any w (bs l) (by rw [bs_size]; omega)
theorem bytes_bs (w : World) (v : Value) (p : Pt) (h : PQ w v p) : Calls Tryz.prog 23 #[v] w fun e w' => e = .returned (.string (bs (enc p))) ∧ Below w.heap.size w w' := bytes8_any w v p h
theorem reduce_bs (w : World) (l : List UInt8) : Calls Tryz.prog 30 #[.string (bs (dig5 l))] w fun e w' => e = .returned (.string (bs (toLe 32 (red l)))) ∧ Below w.heap.size w w' := reduce_any w (bs (dig5 l)) (by rw [bs_size, dig5_len])
theorem red_lt (l : List UInt8) : red l < Ed.L := Nat.mod_lt _ l_pos
theorem leN_l {n : Nat} (h : n < Ed.L) : leN (toLe 32 n) = n := by
 rw [leN_toLe]
 exact Nat.mod_eq_of_lt (Nat.lt_of_lt_of_le h (by decide +kernel))
theorem len32 {n : Nat} {l : List UInt8} (h : l.length = 32) : (dig (leN l)).length ≤ 1000 := by
 have h1 := leN_lt l
 rw [h] at h1
 exact Nat.le_trans (dig_len_le (k := 16) (Nat.lt_of_lt_of_le h1 (by decide +kernel))) (by decide)
theorem clampB_l (h : List UInt8) (hl : h.length = 64) : (secA h).length = 32 := by unfold secA; rw [clampB_len, List.length_take, hl]; rfl
end Go.Proofs.YtfpcelmekfdafaaGreatDoor.Rf
namespace Go.Proofs.YtfpcelmekfdafaaGreatDoor.Kx
open Go.RowKit Go.Proofs.YtfpcelmekfdafaaGreatDoor.Cl Go.Proofs.YtfpcelmekfdafaaGreatDoor.Ed Go.Proofs.YtfpcelmekfdafaaGreatDoor.Rf
/-- a seed's secret in memory: 32 bytes and a text -/
def secV (a p : List UInt8) : Array Value := (Cv.bytesV a).push (.string (bs p))
theorem secV_size (a p : List UInt8) : (secV a p).size = a.length + 1 := by unfold secV; rw [Array.size_push, Cv.bytesV_size]
theorem secV_one (a p : List UInt8) : (secV a p).all (·.oneCell') = true := by
 unfold secV Cv.bytesV
 simp [Lib.byteCells, Value.oneCell']
theorem secV_get {a p : List UInt8} {j : Nat} {v : Value} (h : (Cv.bytesV a)[j]? = some v) : (secV a p)[j]? = some v := by
 unfold secV
 rw [Array.getElem?_push_lt (Array.getElem?_eq_some_iff.1 h).1, ← Array.getElem?_eq_getElem (Array.getElem?_eq_some_iff.1 h).1]
 exact h
theorem secV_str (a p : List UInt8) : (secV a p)[a.length]? = some (.string (bs p)) := by
 unfold secV
 rw [← Cv.bytesV_size a, Array.getElem?_push_size]
theorem part_row {P : Program} (w : World) (t e : TypeId) (n : Nat) (i : TypeInfo) (hu : P.underlying t = some (.array n e)) (hi : P.info? t = some i) (cs : Array Value) (off : Nat) : (part t cs off).run P w = .ok (.agg (cs.extract off (off + P.cellsOf t))) w := by
 unfold part isAgg
 simp [Sem.run_bind, run_underlying hu, run_sizeOf w hi]
theorem secV_left (a p : List UInt8) : (secV a p).extract 0 a.length = Cv.bytesV a := by
 unfold secV Cv.bytesV
 apply Array.toList_inj.1
 simp [Lib.byteCells]
theorem run_secF (w : World) (a p : List UInt8) (ha : a.length = 32) : (Instr.field 54 (.agg (secV a p)) 0).run Tryz.prog w = .ok (.agg (Cv.bytesV a)) w := by
 obtain ⟨i, hi, hs⟩ : ∃ i, Tryz.prog.info? 22 = some i ∧ i.size = 32 := by
  cases h : Tryz.prog.info? 22 with
  | none => exact absurd (show (Tryz.prog.info? 22).isSome = true by kernel_rfl) (by rw [h]; decide)
  | some i => exact ⟨i, rfl, by have e : (Tryz.prog.info? 22).map (·.size) = some 32 := by kernel_rfl
                                rw [h] at e; simpa using e⟩
 have hc : Tryz.prog.cellsOf 22 = 32 := by unfold Program.cellsOf; simp [hi, hs]
 have h := part_row w 22 5 32 i Tryz.underlying22 hi (secV a p) 0
 rw [hc, Nat.zero_add] at h
 have h2 := secV_left a p
 rw [ha] at h2
 rw [h2] at h
 generalize secV a p = sv at *
 unfold Instr.field
 simp [Sem.run_bind, run_underlying Tryz.underlying54, asAgg, h]
theorem fold_setO (o : Nat) : ∀ (l : List Value) (k : Nat) (arr : Array Value), o + k + l.length ≤ arr.size → ∀ j, ((l.zipIdx k).foldl (fun (cs : Array Value) (x : Value × Nat) => cs.setIfInBounds (o + x.2) x.1) arr)[j]? = if o + k ≤ j ∧ j < o + k + l.length then l[j - (o + k)]? else arr[j]?
 | [], k, arr, _, j => by
  rw [if_neg (fun e => by have := e.2; simp at this; omega)]; rfl
 | x :: l, k, arr, h, j => by
  rw [List.zipIdx_cons, List.foldl_cons, fold_setO o l (k + 1) _ (by rw [Array.size_setIfInBounds]; simp at h; omega) j]
  by_cases h1 : o + k = j
  · subst h1
    rw [if_neg (by omega), if_pos (by simp), Array.getElem?_setIfInBounds_self_of_lt (by simp at h; omega)]
    simp
  · rw [Array.getElem?_setIfInBounds_ne h1]
    by_cases h2 : o + (k + 1) ≤ j ∧ j < o + (k + 1) + l.length
    · rw [if_pos h2, if_pos (by simp; omega), show j - (o + k) = (j - (o + (k + 1))) + 1 by omega, List.getElem?_cons_succ]
    · rw [if_neg h2, if_neg (by simp; omega)]
theorem built_sec (a p : List UInt8) (ha : a.length = 32) : Tryz.prog.built 54 [(0, .agg (Cv.bytesV a)), (1, .string (bs p))] = some (secV a p) := by
 have e : Tryz.prog.built 54 [(0, .agg (Cv.bytesV a)), (1, .string (bs p))] = Instr.fill (#[(0, 32), (32, 1)][·]?) #[.int .u8 0, .int .u8 0, .int .u8 0, .int .u8 0, .int .u8 0, .int .u8 0, .int .u8 0, .int .u8 0, .int .u8 0, .int .u8 0, .int .u8 0, .int .u8 0, .int .u8 0, .int .u8 0, .int .u8 0, .int .u8 0, .int .u8 0, .int .u8 0, .int .u8 0, .int .u8 0, .int .u8 0, .int .u8 0, .int .u8 0, .int .u8 0, .int .u8 0, .int .u8 0, .int .u8 0, .int .u8 0, .int .u8 0, .int .u8 0, .int .u8 0, .int .u8 0, .string ⟨#[]⟩] [(0, .agg (Cv.bytesV a)), (1, .string (bs p))] := by kernel_rfl
 have hs : (Cv.bytesV a).size = 32 := by rw [Cv.bytesV_size, ha]
 rw [e]
 unfold Instr.fill
 show (if (Cv.bytesV a).size ≠ 32 || 0 + (Cv.bytesV a).size > 33 then none else _) = _
 rw [hs, if_neg (by decide)]
 show Instr.fill (#[(0, 32), (32, 1)][·]?) ((Cv.bytesV a).zipIdx.foldl (fun (cs : Array Value) (x : Value × Nat) => cs.setIfInBounds (0 + x.2) x.1) #[.int .u8 0, .int .u8 0, .int .u8 0, .int .u8 0, .int .u8 0, .int .u8 0, .int .u8 0, .int .u8 0, .int .u8 0, .int .u8 0, .int .u8 0, .int .u8 0, .int .u8 0, .int .u8 0, .int .u8 0, .int .u8 0, .int .u8 0, .int .u8 0, .int .u8 0, .int .u8 0, .int .u8 0, .int .u8 0, .int .u8 0, .int .u8 0, .int .u8 0, .int .u8 0, .int .u8 0, .int .u8 0, .int .u8 0, .int .u8 0, .int .u8 0, .int .u8 0, .string ⟨#[]⟩]) [(1, .string (bs p))] = _
 obtain ⟨zz, hz⟩ : ∃ zz : Array Value, zz = (#[.int .u8 0, .int .u8 0, .int .u8 0, .int .u8 0, .int .u8 0, .int .u8 0, .int .u8 0, .int .u8 0, .int .u8 0, .int .u8 0, .int .u8 0, .int .u8 0, .int .u8 0, .int .u8 0, .int .u8 0, .int .u8 0, .int .u8 0, .int .u8 0, .int .u8 0, .int .u8 0, .int .u8 0, .int .u8 0, .int .u8 0, .int .u8 0, .int .u8 0, .int .u8 0, .int .u8 0, .int .u8 0, .int .u8 0, .int .u8 0, .int .u8 0, .int .u8 0, .string ⟨#[]⟩] : Array Value) := ⟨_, rfl⟩
 have hz1 : zz.size = 33 := by rw [hz]; rfl
 rw [← hz]
 clear hz e
 have hl : (Cv.bytesV a).toList.length = 32 := by rw [Array.length_toList, hs]
 have hf := fold_setO 0 (Cv.bytesV a).toList 0 zz (by rw [hl, hz1]; decide)
 rw [← Array.foldl_toList, Array.toList_zipIdx]
 generalize hg : List.foldl (fun (cs : Array Value) (x : Value × Nat) => cs.setIfInBounds (0 + x.2) x.1) zz ((Cv.bytesV a).toList.zipIdx 0) = g at *
 have hgs : g.size = 33 := by
  have h1 := hf 32
  rw [hl, if_neg (by omega), Array.getElem?_eq_getElem (xs := zz) (by omega)] at h1
  have h2 := hf 33
  rw [hl, if_neg (by omega), Array.getElem?_eq_none (xs := zz) (by omega)] at h2
  have h3 := (Array.getElem?_eq_some_iff.1 h1).1
  have h4 := Array.getElem?_eq_none_iff.1 h2
  omega
 unfold Instr.fill
 show (if (1 : Nat) ≠ 1 || 32 + 1 > g.size then none else _) = _
 rw [hgs, if_neg (by decide)]
 unfold Instr.fill
 show some (g.setIfInBounds 32 (.string (bs p))) = some (secV a p)
 refine congrArg some (Array.ext_getElem? fun j => ?_)
 by_cases hj : j = 32
 · subst hj
   rw [Array.getElem?_setIfInBounds_self_of_lt (by omega)]
   have := secV_str a p
   rw [ha] at this
   exact this.symm
 · rw [Array.getElem?_setIfInBounds_ne (fun e => hj e.symm), hf j, hl]
   by_cases h2 : j < 32
   · rw [if_pos (by omega), Nat.zero_add, Nat.sub_zero, Array.getElem?_toList, Array.getElem?_eq_getElem (by omega)]
     exact (secV_get (Array.getElem?_eq_getElem (by omega))).symm
   · rw [if_neg (by omega), Array.getElem?_eq_none (by omega), Array.getElem?_eq_none (by rw [secV_size]; omega)]
theorem parts_n (w : World) (T : TypeId) (xs : List ByteArray) (h : xs ≠ []) (n : Nat) (hn : n = xs.length) : Jo.Parts (w.alloc (.cells (xs.map Value.string).toArray T)) (.slice (some ⟨w.heap.size, 0, none⟩) n n) xs := by
 subst hn
 exact .inr ⟨w.heap.size, 0, xs.length, rfl, fun j x hx => by rw [Nat.zero_add]; exact (Rg.Blk.new w _ _).cell j (by simp [hx]), by simp, Nat.le_refl _⟩
theorem bytes_front {w : World} {b T : Nat} {l : List UInt8} (h : Rg.Blk w b T (Cv.bytesV l)) (n : Nat) : Cv.Bytes w b 0 (l.take n) := fun j x hx => (Cv.Bytes.of_blk h) j x (by
 rw [List.getElem?_take] at hx
 split at hx
 · exact hx
 · cases hx)
theorem bytes_back {w : World} {b T : Nat} {l : List UInt8} (h : Rg.Blk w b T (Cv.bytesV l)) (n : Nat) : Cv.Bytes w b n (l.drop n) := fun j x hx => by
 rw [List.getElem?_drop] at hx
 have := (Cv.Bytes.of_blk h) (n + j) x hx
 rwa [Nat.zero_add] at this
/-- Sum512 over lists of bytes -/
theorem sum_l (W : World) (v : Value) (xs : List ByteArray) (l : List UInt8) (hl : (Jo.joined xs).data.toList = l) (hz : l.length ≤ 100000) (hn : xs.length ≤ 100) (hT : Sha.Tables W) (hv : Jo.Parts W v xs) : Calls Tryz.prog 54 #[v] W fun e w' => e = .returned (.agg (Cv.bytesV (dig5 l))) ∧ Below W.heap.size W w' := by
 have h := Sha.Sum512_any W v xs hT hv (by rw [← ByteArray.size_data, ← Array.length_toList, hl]; omega) (by omega)
 rw [hl] at h
 exact h
theorem open_any (w : World) (seed : List UInt8) (hl : seed.length = 32) (hT : Sha.Tables w) : Calls Tryz.prog 20 #[.agg (Cv.bytesV seed)] w fun e w' => e = .returned (.agg (secV (secA (dig5 seed)) ((dig5 seed).drop 32))) ∧ Below w.heap.size w w' := by
 obtain ⟨d, hd⟩ : ∃ d, dig5 seed = d := ⟨_, rfl⟩
 rw [hd]
 have hdl : d.length = 64 := by rw [← hd, dig5_len]
 obtain ⟨t, ht⟩ : ∃ t, d.take 32 = t := ⟨_, rfl⟩
 have htl : t.length = 32 := by rw [← ht, List.length_take, hdl]; rfl
 obtain ⟨pf, hpf⟩ : ∃ t, d.drop 32 = t := ⟨_, rfl⟩
 have HPL := ϕ (show pf.length = 32 by rw [← hpf, List.length_drop, hdl])
 obtain ⟨a0, h0⟩ : ∃ a, t[0]? = some a := ⟨_, List.getElem?_eq_getElem (by omega)⟩
 obtain ⟨a31, h31⟩ : ∃ a, t[31]? = some a := ⟨_, List.getElem?_eq_getElem (by omega)⟩
 obtain ⟨z0, hz0⟩ : ∃ z, a0 &&& 248 = z := ⟨_, rfl⟩
 obtain ⟨z31, hz31⟩ : ∃ z, a31 &&& 63 ||| 64 = z := ⟨_, rfl⟩
 obtain ⟨sa, hsa⟩ : ∃ s, secA d = s := ⟨_, rfl⟩
 have HCL := ϕ (show (t.set 0 z0).set 31 z31 = sa by rw [← hsa]; unfold secA; rw [ht, clamp_sets htl h0 h31, hz0, hz31])
 have HSL := ϕ (show sa.length = 32 by rw [← hsa]; exact clampB_l _ hdl)
 have HS := ϕ (fun W v (hT : Sha.Tables W) (hv : Jo.Parts W v [⟨seed.toArray⟩]) => show Calls Tryz.prog 54 #[v] W fun e w' => e = .returned (.agg (Cv.bytesV d)) ∧ Below W.heap.size W w' from hd ▸ sum_l W v _ seed (by rw [Jo.joined_list]; simp) (by omega) (by simp) hT hv)
 have HL := ϕ hl
 have HT := ϕ hT
 have HDL := ϕ hdl
 have HTL := ϕ htl
 have HTK := ϕ ht
 have HPF := ϕ hpf
 have H0 := ϕ h0
 have H31 := ϕ (show (t.set 0 z0)[31]? = some a31 by rw [List.getElem?_set_ne (by decide)]; exact h31)
 have e0 : bits .andNot .u8 (a0.toNat : Int) 7 = (z0.toNat : Int) := by rw [← hz0]; exact andNot7 a0
 have e1 : bits .and .u8 (a31.toNat : Int) 63 = ((a31 &&& 63).toNat : Int) := and63 a31
 have e2 : bits .or .u8 ((a31 &&& 63).toNat : Int) 64 = (z31.toNat : Int) := by rw [← hz31]; exact or64 _
 obtain ⟨y31, hy31⟩ : ∃ y : UInt8, a31 &&& 63 = y := ⟨_, rfl⟩
 rw [hy31] at e1 e2
 have E0 := ϕ e0
 have E1 := ϕ e1
 have E2 := ϕ e2
 rw [hsa, hpf]
 clear hd hl hT hdl htl ht h0 h31 hz0 hz31 hsa hpf e0 e1 e2 hy31
 go_enter Tryz.func20, Tryz.ntmps20
 go_upto_region 1 with ((with_reducible refine gate_ ?_); refine Rg.box_fresh rfl 22 _ rfl (Cv.bytesV seed) rfl ?_; intro X hX hbX hnX; have HX := ϕ hX; have HBX := ϕ hbX; clear hX hbX hnX)
 obtain ⟨sb, hsb⟩ : ∃ n, w.heap.size = n := ⟨_, rfl⟩
 obtain ⟨ob, hob⟩ : ∃ n, X.heap.size = n := ⟨_, rfl⟩
 have HN1 := ϕ (show w.heap.size ≤ ob from hob ▸ HBX.out.size)
 have HSB := ϕ (show Rg.Blk (X.alloc (.cells #[.int .u8 0, .int .u8 0, .int .u8 0, .int .u8 0, .int .u8 0, .int .u8 0, .int .u8 0, .int .u8 0, .int .u8 0, .int .u8 0, .int .u8 0, .int .u8 0, .int .u8 0, .int .u8 0, .int .u8 0, .int .u8 0, .int .u8 0, .int .u8 0, .int .u8 0, .int .u8 0, .int .u8 0, .int .u8 0, .int .u8 0, .int .u8 0, .int .u8 0, .int .u8 0, .int .u8 0, .int .u8 0, .int .u8 0, .int .u8 0, .int .u8 0, .int .u8 0, .string ⟨#[]⟩] 54)) sb 22 (Cv.bytesV seed) from (hsb ▸ HX.out).alloc _)
 have HOB := ϕ (show Rg.Blk (X.alloc (.cells #[.int .u8 0, .int .u8 0, .int .u8 0, .int .u8 0, .int .u8 0, .int .u8 0, .int .u8 0, .int .u8 0, .int .u8 0, .int .u8 0, .int .u8 0, .int .u8 0, .int .u8 0, .int .u8 0, .int .u8 0, .int .u8 0, .int .u8 0, .int .u8 0, .int .u8 0, .int .u8 0, .int .u8 0, .int .u8 0, .int .u8 0, .int .u8 0, .int .u8 0, .int .u8 0, .int .u8 0, .int .u8 0, .int .u8 0, .int .u8 0, .int .u8 0, .int .u8 0, .string ⟨#[]⟩] 54)) ob 54 (#[.int .u8 0, .int .u8 0, .int .u8 0, .int .u8 0, .int .u8 0, .int .u8 0, .int .u8 0, .int .u8 0, .int .u8 0, .int .u8 0, .int .u8 0, .int .u8 0, .int .u8 0, .int .u8 0, .int .u8 0, .int .u8 0, .int .u8 0, .int .u8 0, .int .u8 0, .int .u8 0, .int .u8 0, .int .u8 0, .int .u8 0, .int .u8 0, .int .u8 0, .int .u8 0, .int .u8 0, .int .u8 0, .int .u8 0, .int .u8 0, .int .u8 0, .int .u8 0, .string ⟨#[]⟩] : Array Value) from Rg.Blk.newAt hob.symm _ _)
 have HB := ϕ (show Below w.heap.size w (X.alloc (.cells #[.int .u8 0, .int .u8 0, .int .u8 0, .int .u8 0, .int .u8 0, .int .u8 0, .int .u8 0, .int .u8 0, .int .u8 0, .int .u8 0, .int .u8 0, .int .u8 0, .int .u8 0, .int .u8 0, .int .u8 0, .int .u8 0, .int .u8 0, .int .u8 0, .int .u8 0, .int .u8 0, .int .u8 0, .int .u8 0, .int .u8 0, .int .u8 0, .int .u8 0, .int .u8 0, .int .u8 0, .int .u8 0, .int .u8 0, .int .u8 0, .int .u8 0, .int .u8 0, .string ⟨#[]⟩] 54)) from HBX.out.alloc HBX.out.size _)
 have HT := ϕ (HT.out.below HB.out HT.out.size)
 try rw [hsb]
 try rw [hob]
 clear HX HBX hsb hob
 generalize (X.alloc (.cells #[.int .u8 0, .int .u8 0, .int .u8 0, .int .u8 0, .int .u8 0, .int .u8 0, .int .u8 0, .int .u8 0, .int .u8 0, .int .u8 0, .int .u8 0, .int .u8 0, .int .u8 0, .int .u8 0, .int .u8 0, .int .u8 0, .int .u8 0, .int .u8 0, .int .u8 0, .int .u8 0, .int .u8 0, .int .u8 0, .int .u8 0, .int .u8 0, .int .u8 0, .int .u8 0, .int .u8 0, .int .u8 0, .int .u8 0, .int .u8 0, .int .u8 0, .int .u8 0, .string ⟨#[]⟩] 54)) = Y at *
 have tb0 := True.intro
 go_upto_region 2 with (first
  | ((with_reducible refine gate_ ?_); refine Cv.conv_string rfl 25 5 9 _ rfl Tryz.underlying25 Tryz.underlying5 Tryz.underlying9 sb 0 32 32 seed rfl HL.out (Cv.Bytes.of_blk HSB.out) ?_; skip)
  | (go_at_call 54; refine (HS.out _ _ (HT.out.below ((Below.refl _ _).alloc (Nat.le_refl _) _) HT.out.size) (parts_n _ _ [_] (by simp) 1 rfl)).mono ?_; rintro e w1 ⟨rfl, hb1⟩; have hb2 := (Below.alloc (Below.refl Y.heap.size Y) (Nat.le_refl _) _).trans (hb1.mono (by simp)); have HOB := ϕ (HOB.out.below hb2 HOB.out.lt); have HB := tm HB hb2; clear hb1 hb2)
  | (refine Rg.store_fresh rfl 29 _ _ rfl (Cv.bytesV d) _ 29 rfl rfl (by rw [Cv.bytesV_size, HDL.out]; kernel_rfl) (by rw [Cv.bytesV_size, HDL.out]; rfl) (Cv.bytesV_one _) ?_; intro V1 hX hbX; have HD := ϕ hX; have HNd := ϕ (show ob < w1.heap.size from HOB.out.lt); have HOB := ϕ (HOB.out.below hbX HOB.out.lt); have HB1 := ϕ HB.out; have HB := tm HB hbX; clear hX hbX))
 obtain ⟨db, hdb⟩ : ∃ n, w1.heap.size = n := ⟨_, rfl⟩
 have HD := ϕ (show Rg.Blk V1 db 29 (Cv.bytesV d) from hdb ▸ HD.out)
 have HN2 := ϕ (show ob < db from hdb ▸ HNd.out)
 try rw [hdb]
 clear hdb HNd HSB HB1 HT HS
 go_upto_region 3 with (first
  | ((with_reducible refine gate_ ?_); refine Cv.slice_to_array rfl 22 5 32 _ rfl _ _ _ _ rfl Tryz.underlying22 (by decide) ?_; skip)
  | ((with_reducible refine gate_ ?_); refine Cv.load_cells rfl 22 _ rfl db 0 rfl (Cv.bytesV t) _ (HTK.out ▸ Cv.Bytes.cells (bytes_front HD.out 32)) Tryz.underlying22 rfl (by rw [Cv.bytesV_size, HTL.out]; kernel_rfl) ?_)
  | (refine Rg.store_fresh rfl 22 _ _ rfl (Cv.bytesV t) _ 22 rfl rfl (by rw [Cv.bytesV_size, HTL.out]; kernel_rfl) (by rw [Cv.bytesV_size, HTL.out]; rfl) (Cv.bytesV_one _) ?_; intro V2 hX hbX; have HA := ϕ hX; have HNd := ϕ (show db < V1.heap.size from HD.out.lt); have HOB := ϕ (HOB.out.below hbX HOB.out.lt); have HD := ϕ (HD.out.below hbX HD.out.lt); have HGA := ϕ (show w.heap.size ≤ V1.heap.size from HB.out.size); have HB := tm HB hbX; clear hX hbX))
 obtain ⟨ab, hab⟩ : ∃ n, V1.heap.size = n := ⟨_, rfl⟩
 have HA := ϕ (show Rg.Blk V2 ab 22 (Cv.bytesV t) from hab ▸ HA.out)
 have HN := ϕ (show ¬ ab = ob ∧ ¬ db = ob ∧ w.heap.size ≤ ob from by have h1 := hab ▸ HNd.out; have h2 := HN2.out; have h3 := HN1.out; omega)
 have HN3 := ϕ (show ¬ ob = ab ∧ ¬ db = ab ∧ w.heap.size ≤ ab from by have h1 := hab ▸ HNd.out; have h2 := HN2.out; have h3 := hab ▸ HGA.out; omega)
 try rw [hab]
 clear hab HNd HN1 HN2 HGA
 have x0 := HA.out.cell 0 (Cv.bytesV_get _ _ _ H0.out)
 have e0 := E0.out
 go_upto_region 4 with ((with_reducible refine gate_ ?_); refine Cv.store_byte rfl 5 _ _ rfl (b := ab) (j := 0) (l := t) (v := z0) rfl (by first | rfl | (simp [e0]; done)) Tryz.underlying5 (by kernel_rfl) HA.out (by rw [HTL.out]; decide) ?_; intro V3 hV hgV; have HD := ϕ (blk_other HD.out hgV (fun e => HN3.out.2.1 e.symm)); have HOB := ϕ (blk_other HOB.out hgV (fun e => HN3.out.1 e.symm)); have HA3 := ϕ hV; have HB := ϕ (HB.out.grown hgV HB.out.size (fun j e => by cases e; exact HN3.out.2.2)); clear hV hgV)
 clear x0 e0 HA
 have x1 := HA3.out.cell 31 (Cv.bytesV_get _ _ _ H31.out)
 have e1 := E1.out
 have e2 := E2.out
 go_upto_region 5 with ((with_reducible refine gate_ ?_); refine Cv.store_byte rfl 5 _ _ rfl (b := ab) (j := 31) (l := t.set 0 z0) (v := z31) rfl (by first | rfl | (simp [e1, e2]; done)) Tryz.underlying5 (by kernel_rfl) HA3.out (by rw [List.length_set, HTL.out]; decide) ?_; intro V4 hV hgV; have HD := ϕ (blk_other HD.out hgV (fun e => HN3.out.2.1 e.symm)); have HOB := ϕ (blk_other HOB.out hgV (fun e => HN3.out.1 e.symm)); have HA := ϕ (show Rg.Blk V4 ab 22 (Cv.bytesV sa) from HCL.out ▸ hV); have HB := ϕ (HB.out.grown hgV HB.out.size (fun j e => by cases e; exact HN3.out.2.2)); clear hV hgV)
 clear x1 e1 e2 HA3
 refine RL.start (fun W => Sp.Upd V4 W [ob]) (by kernel_rfl) (Sp.Upd.trans (Sp.Upd.refl _ _) (Sp.Upd.of_below (Below.drew (Below.refl _ _))) (by simp)) ?_
 refine RL.tw 0 (v := .agg (Cv.bytesV sa)) rfl (fun W hSW => RT.run_row 22 _ rfl _ rfl _ _ (upd_blk hSW HA.out (by simp; exact HN.out.1)) Tryz.underlying22 rfl (by rw [Cv.bytesV_size, HSL.out]; kernel_rfl)) ?_
 try go_frame
 refine' RL.tv 1 ?hk15 ?_
 case hk15 => (intro W hSW; go_simp; try with_reducible rfl)
 try go_frame
 refine' RL.tv 2 ?hk16 ?_
 case hk16 => (intro W hSW; have x1 := Cv.run_string_len (P := Tryz.prog) W 25 5 9 Tryz.underlying25 Tryz.underlying5 Tryz.underlying9 db 32 32 32 pf HPL.out (HPF.out ▸ bytes_back (upd_blk hSW HD.out (by simp; exact HN.out.2.1)) 32); go_simp; try with_reducible rfl)
 try go_frame
 refine RL.tw 3 (v := .agg (secV sa pf)) rfl (fun W hSW => run_build_op 54 _ rfl #[(0, .agg (Cv.bytesV sa)), (1, .string (bs pf))] (by go_simp; try rfl) _ (built_sec _ _ HSL.out)) ?_
 try go_frame
 refine RL.sk 4 (fun va hlva hsva K hK => ?_)
 have hO := (HOB.out.below (Below.drew (Below.refl _ _)) HOB.out.lt).below hlva (by have := HOB.out.lt; simpa using this)
 refine store_blk_op 54 _ _ rfl ob (secV sa pf) _ 54 rfl (by rfl) hO (by rw [secV_size, HSL.out]; kernel_rfl) (by rw [secV_size, HSL.out]; rfl) (secV_one _ _) ?_
 intro Y hY hgY
 refine hK.out _ _ (Sp.Upd.trans hsva (Sp.Upd.of_grown1 hgY) (fun q hq => .inl hq)) ?_
 clear hK
 try go_frame
 refine RL.done (by kernel_rfl) (fun V hlV hsV => ?_)
 have HR := ϕ (show Rg.Blk V ob 54 (secV sa pf) from Rg.Blk.below hY hlV hY.lt)
 have HB := ϕ (below_upd HB.out hsV (fun k hk => by simp at hk; rw [hk]; exact HN.out.2.2) HB.out.size)
 clear hO hY hgY hlva hsva hlV hsV
 go_wp2_with fail
 refine bodyPost_ret (v := .agg (secV sa pf))
  (results_cell_row Tryz.results20 _ _ ob 54 _ (0, 0) _ rfl HR.out Tryz.underlying54 rfl (by rw [secV_size, HSL.out]; kernel_rfl)) rfl ?_
 exact ⟨rfl, HB.out⟩
end Go.Proofs.YtfpcelmekfdafaaGreatDoor.Kx
namespace Go.Proofs.YtfpcelmekfdafaaGreatDoor.RL
open Go.RowKit
end Go.Proofs.YtfpcelmekfdafaaGreatDoor.RL
namespace Go.Proofs.YtfpcelmekfdafaaGreatDoor.Kx
open Go.RowKit Go.Proofs.YtfpcelmekfdafaaGreatDoor.Cl Go.Proofs.YtfpcelmekfdafaaGreatDoor.Ed Go.Proofs.YtfpcelmekfdafaaGreatDoor.Rf
theorem tab_upd {w w' : World} {s : List Nat} (h : Sha.Tables w) (hu : Sp.Upd w w' s) (hs : ∀ k ∈ s, 3 ≤ k) : Sha.Tables w' :=
 h.below (below_upd (Below.refl _ _) hu hs h.size) (Nat.le_refl _)
theorem red_toLe (l : List UInt8) : leN (⟨(dig5 l).toArray⟩ : ByteArray).data.toList % Ed.L = red l := rfl
theorem reduce_l (w : World) (v : Value) (xs : List ByteArray) (l : List UInt8) (hl : (Jo.joined xs).data.toList = l) (hz : l.length ≤ 100000) (hn : xs.length ≤ 100) (hT : Sha.Tables w) (hO : Ord w) (hv : Jo.Parts w v xs) : Calls Tryz.prog 28 #[v] w fun e w' => e = .returned (.agg (Cv.bytesV (toLe 32 (red l)))) ∧ Below w.heap.size w w' := by
 obtain ⟨d, hd⟩ : ∃ d, dig5 l = d := ⟨_, rfl⟩
 have hdl : d.length = 64 := by rw [← hd, dig5_len]
 have HR := ϕ (show toLe 32 (leN (⟨d.toArray⟩ : ByteArray).data.toList % Ed.L) = toLe 32 (red l) from by rw [← hd, red_toLe])
 obtain ⟨rd, hrd⟩ : ∃ r, toLe 32 (red l) = r := ⟨_, rfl⟩
 rw [hrd] at HR ⊢
 have HRL := ϕ (show rd.length = 32 from by rw [← hrd, toLe_len])
 have HS := ϕ (fun W (hT : Sha.Tables W) (hv : Jo.Parts W v xs) => show Calls Tryz.prog 54 #[v] W fun e w' => e = .returned (.agg (Cv.bytesV d)) ∧ Below W.heap.size W w' from hd ▸ sum_l W v xs l hl hz hn hT hv)
 have HT := ϕ hT
 have HO := ϕ hO
 have HP := ϕ hv
 have HDL := ϕ hdl
 have HDS := ϕ (show (⟨d.toArray⟩ : ByteArray).size = 64 from by show d.toArray.size = 64; rw [List.size_toArray]; exact hdl)
 clear hd hdl hl hz hn hT hO hv hrd
 go_enter Tryz.func28, Tryz.ntmps28
 go_upto_region 1 with fail
 obtain ⟨rb, hrb⟩ : ∃ n, w.heap.size = n := ⟨_, rfl⟩
 have HN := ϕ (show w.heap.size ≤ rb from Nat.le_of_eq hrb)
 have HB := ϕ (show Below w.heap.size w (w.alloc (.cells z32 22)) from (Below.refl _ _).alloc (Nat.le_refl _) _)
 have HRB := ϕ (show Rg.Blk (w.alloc (.cells z32 22)) rb 22 z32 from Rg.Blk.newAt hrb.symm _ _)
 have HT := ϕ (HT.out.below HB.out HT.out.size)
 have HO := ϕ (HO.out.below HB.out HO.out.size)
 have HP := ϕ (HP.out.below HB.out)
 rw [hrb]
 generalize (w.alloc (.cells z32 22)) = Y at *
 clear hrb
 go_upto_region 2 with (first
  | (go_at_call 54; refine (HS.out _ HT.out HP.out).mono ?_; rintro e w1 ⟨rfl, hb1⟩; have HRB := ϕ (HRB.out.below hb1 HRB.out.lt); have HO := ϕ (HO.out.below hb1 HO.out.size); have HB := tm HB hb1; clear hb1)
  | (refine Rg.store_fresh rfl 29 _ _ rfl (Cv.bytesV d) _ 29 rfl rfl (by rw [Cv.bytesV_size, HDL.out]; kernel_rfl) (by rw [Cv.bytesV_size, HDL.out]; rfl) (Cv.bytesV_one _) ?_; intro V1 hX hbX; have HD := ϕ hX; have HRB := ϕ (HRB.out.below hbX HRB.out.lt); have HO := ϕ (HO.out.below hbX HO.out.size); have HB := tm HB hbX; clear hX hbX))
 go_wp2_with (first
  | ((with_reducible refine gate_ ?_); refine Cv.conv_string rfl 25 5 9 _ rfl Tryz.underlying25 Tryz.underlying5 Tryz.underlying9 _ 0 64 64 d rfl HDL.out (Cv.Bytes.of_blk HD.out) ?_; skip)
  | (go_at_call 61; refine (Reduce_any _ ⟨d.toArray⟩ HDS.out HO.out).mono ?_; rintro e w2 ⟨rfl, hb1⟩; rw [HR.out]; have HRB2 := ϕ (HRB.out.below hb1 HRB.out.lt); have HB2 := ϕ (HB.out.trans (hb1.mono HB.out.size)); clear hb1)
  | ((with_reducible refine gate_ ?_); refine Cv.store_blk rfl 22 _ _ rfl rb (Cv.bytesV rd) z32 22 rfl rfl HRB2.out (by rw [Cv.bytesV_size, HRL.out]; kernel_rfl) (by rw [Cv.bytesV_size, HRL.out]; rfl) (Cv.bytesV_one _) ?_; intro V hV hgV; have HZ2 := ϕ hV; have HB3 := ϕ (HB2.out.grown hgV HB2.out.size (fun j e => by cases e; exact HN.out)); clear hV hgV))
 refine bodyPost_ret (v := .agg (Cv.bytesV rd))
  (results_cell_row Tryz.results28 _ _ rb 22 _ (0, 0) _ rfl HZ2.out Tryz.underlying22 rfl (by rw [Cv.bytesV_size, HRL.out]; kernel_rfl)) rfl ?_
 exact ⟨rfl, HB3.out⟩
theorem Key_any (w : World) (seed : List UInt8) (hl : seed.length = 32) (hT : Sha.Tables w) : Calls Tryz.prog 8 #[.agg (Cv.bytesV seed)] w fun e w' => e = .returned (.agg (Cv.bytesV (pub seed))) ∧ Below w.heap.size w w' := by
 obtain ⟨cd, ct, c1, c2, c3, c4, ecd, ect, hrq, cbeg⟩ := begin_e
 have CBE := ϕ cbeg
 obtain ⟨B0, hB0⟩ : ∃ R : E4, (⟨c1, c2, c3, c4⟩ : E4) = R := ⟨_, rfl⟩
 have hrB : Rq4 base B0 := hB0 ▸ hrq
 have hop := fun W (hW : Sha.Tables W) => open_any W seed hl hW
 obtain ⟨sa, hsa⟩ : ∃ s, secA (dig5 seed) = s := ⟨_, rfl⟩
 obtain ⟨pf, hpf⟩ : ∃ s, (dig5 seed).drop 32 = s := ⟨_, rfl⟩
 have hsl : sa.length = 32 := by rw [← hsa]; exact clampB_l _ (dig5_len _)
 obtain ⟨ke, hke⟩ : ∃ s, pub seed = s := ⟨_, rfl⟩
 have hkp : pub seed = enc (Pt.mul (leN sa) base) := by rw [← hsa]; rfl
 rw [hsa, hpf] at hop
 obtain ⟨R1, hR1, cmu⟩ := mult_q (cd := cd) (ct := ct) (c1 := c1) (c2 := c2) (c3 := c3) (c4 := c4) ect hrB sa hsl
 have cby := bytes_q hR1
 rw [← hkp, hke] at cby
 rw [hke]
 have HOP := ϕ hop
 have CMU := ϕ (hB0 ▸ cmu)
 have CBY := ϕ cby
 have HSL := ϕ hsl
 have HKL := ϕ (show ke.length = 32 from by rw [← hke, hkp]; exact enc_len _)
 have HL := ϕ hl
 have HT := ϕ hT
 clear hop hsa hpf hsl hke hkp hR1 cmu cby hl hT ecd ect hrq cbeg hB0 hrB
 go_enter Tryz.func8, Tryz.ntmps8
 go_upto_region 1 with ((with_reducible refine gate_ ?_); refine Rg.box_fresh rfl 22 _ rfl (Cv.bytesV seed) rfl ?_; intro X hX hbX hnX; have HX := ϕ hX; have HBX := ϕ hbX; clear hX hbX hnX)
 obtain ⟨sb, hsb⟩ : ∃ n, w.heap.size = n := ⟨_, rfl⟩
 obtain ⟨rb, hrb⟩ : ∃ n, X.heap.size = n := ⟨_, rfl⟩
 have HGR := ϕ (show w.heap.size ≤ rb from hrb ▸ HBX.out.size)
 have NT := ϕ (show 3 ≤ rb from Nat.le_trans HT.out.size HGR.out)
 have Hsb := ϕ (show Rg.Blk (X.alloc (.cells z32 22)) sb 22 (Cv.bytesV seed) from (hsb ▸ HX.out).alloc _)
 have HRB := ϕ (show Rg.Blk (X.alloc (.cells z32 22)) rb 22 z32 from Rg.Blk.newAt hrb.symm _ _)
 have Nsb := ϕ (show ¬ sb = rb from by have h := (hsb ▸ HX.out).lt; omega)
 have HB := ϕ (show Below w.heap.size w (X.alloc (.cells z32 22)) from HBX.out.alloc HBX.out.size _)
 have HT := ϕ (HT.out.below HB.out HT.out.size)
 try rw [hsb]
 try rw [hrb]
 clear HX HBX hsb hrb
 generalize (X.alloc (.cells z32 22)) = Y at *
 go_upto_region 2 with (go_at_call 18; refine (CBE.out _).mono ?_; rintro e w1 ⟨⟨cb, hcb, rfl, hcv⟩, hb1⟩; have Ncb := ϕ (show ¬ cb = rb from by have h := HRB.out.lt; omega); have Hcb := ϕ (show Rg.Blk w1 cb 57 (u64s (els [cd, ct, c1, c2, c3, c4])) from hcv); have Hsb := ϕ (Hsb.out.below hb1 Hsb.out.lt); have HRB := ϕ (HRB.out.below hb1 HRB.out.lt); have HT := ϕ (HT.out.below hb1 HT.out.size); have HB := tm HB hb1; clear hb1 hcv hcb)
 refine RL.start (fun W => Sp.Upd w1 W [rb]) (by kernel_rfl) (Sp.Upd.trans (Sp.Upd.refl _ _) (Sp.Upd.of_below (Below.drew (Below.refl _ _))) (by simp)) ?_
 refine' RL.tv 0 ?hk15 ?_
 case hk15 => (intro W hSW; go_simp; try with_reducible rfl)
 try go_frame
 refine RL.tw 1 (v := .agg (Cv.bytesV seed)) rfl (fun W hSW => RT.run_row 22 _ rfl _ rfl _ _ (upd_blk hSW Hsb.out (by simp; exact Nsb.out)) Tryz.underlying22 rfl (by rw [Cv.bytesV_size, HL.out]; kernel_rfl)) ?_
 try go_frame
 refine' RL.tc 2 (v := (.agg (secV sa pf))) 20 #[.agg (Cv.bytesV seed)] ?hk16 ?hc16 ?_
 case hk16 => (intro W; go_simp; try with_reducible rfl)
 case hc16 => (intro W hSW; exact (HOP.out W (tab_upd HT.out hSW (by simp; exact NT.out))).mono (fun e w9 h9 => ⟨h9.1, h9.2, Sp.Upd.trans hSW (Sp.Upd.of_below h9.2) (by simp)⟩))
 try go_frame
 refine' RL.tv 3 ?hk17 ?_
 case hk17 => (intro W hSW; have x1 := run_secF W sa pf HSL.out; go_simp; try with_reducible rfl)
 try go_frame
 refine' RL.tv 4 ?hk18 ?_
 case hk18 => (intro W hSW; go_simp; try with_reducible rfl)
 try go_frame
 refine' RL.tv 5 ?hk19 ?_
 case hk19 => (intro W hSW; go_simp; try with_reducible rfl)
 try go_frame
 refine' RL.tv 6 ?hk20 ?_
 case hk20 => (intro W hSW; go_simp; try with_reducible rfl)
 try go_frame
 refine RL.tw 7 (v := .agg (u64s (els [c1, c2, c3, c4]))) rfl (fun W hSW => run_at 51 _ rfl cb 10 rfl (u64s (els [c1, c2, c3, c4])) (els_at (upd_blk hSW Hcb.out (by simp; exact Ncb.out)) 2 10 [c1, c2, c3, c4] rfl rfl (by simp)) Tryz.underlying51 rfl (by kernel_rfl)) ?_
 try go_frame
 refine' RL.tc 8 (v := (.agg (u64s (els [R1.x, R1.y, R1.z, R1.t])))) 19 #[.pointer (some ⟨cb, 0, none⟩), .agg (Cv.bytesV sa), .agg (u64s (els [c1, c2, c3, c4]))] ?hk21 ?hc21 ?_
 case hk21 => (intro W; go_simp; try with_reducible rfl)
 case hc21 => (intro W hSW; exact (CMU.out cb W (upd_blk hSW Hcb.out (by simp; exact Ncb.out))).mono (fun e w9 h9 => ⟨h9.1, h9.2, Sp.Upd.trans hSW (Sp.Upd.of_below h9.2) (by simp)⟩))
 try go_frame
 refine' RL.tc 9 (v := (.agg (Cv.bytesV ke))) 21 #[.agg (u64s (els [R1.x, R1.y, R1.z, R1.t]))] ?hk22 ?hc22 ?_
 case hk22 => (intro W; go_simp; try with_reducible rfl)
 case hc22 => (intro W hSW; exact (CBY.out W).mono (fun e w9 h9 => ⟨h9.1, h9.2, Sp.Upd.trans hSW (Sp.Upd.of_below h9.2) (by simp)⟩))
 try go_frame
 refine RL.sk 10 (fun va hlva hsva K hK => ?_)
 have hO := (HRB.out.below (Below.drew (Below.refl _ _)) HRB.out.lt).below hlva (by have := HRB.out.lt; simpa using this)
 refine store_blk_op 22 _ _ rfl rb (Cv.bytesV ke) _ 22 rfl (by rfl) hO (by rw [Cv.bytesV_size, HKL.out]; kernel_rfl) (by rw [Cv.bytesV_size, HKL.out]; rfl) (Cv.bytesV_one _) ?_
 intro Y hY hgY
 refine hK.out _ _ (Sp.Upd.trans hsva (Sp.Upd.of_grown1 hgY) (fun q hq => .inl hq)) ?_
 clear hK
 try go_frame
 refine RL.done (by kernel_rfl) (fun V hlV hsV => ?_)
 have HR := ϕ (show Rg.Blk V rb 22 (Cv.bytesV ke) from Rg.Blk.below hY hlV hY.lt)
 have HB := ϕ (below_upd HB.out hsV (fun k hk => by simp at hk; rw [hk]; exact HGR.out) HB.out.size)
 clear hO hY hgY hlva hsva hlV hsV
 go_wp2_with fail
 refine bodyPost_ret (v := .agg (Cv.bytesV ke))
  (results_cell_row Tryz.results8 _ _ rb 22 _ (0, 0) _ rfl HR.out Tryz.underlying22 rfl (by rw [Cv.bytesV_size, HKL.out]; kernel_rfl)) rfl ?_
 exact ⟨rfl, HB.out⟩
end Go.Proofs.YtfpcelmekfdafaaGreatDoor.Kx
