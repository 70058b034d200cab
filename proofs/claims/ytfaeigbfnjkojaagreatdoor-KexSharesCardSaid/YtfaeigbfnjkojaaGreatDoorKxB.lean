/- The field's carry, Small, Choose. -/
import Derived.Test.YtfaeigbfnjkojaaGreatDoorKxA
import Derived.Laws.BitsAllLaws
import Derived.Test.YtfaeigbfnjkojaaGreatDoorShelf
import Derived.Test.YtfaeigbfnjkojaaGreatDoorRows
import Derived.Says
set_option linter.unusedVariables false
set_option linter.unusedSimpArgs false
namespace Go.Proofs.YtfaeigbfnjkojaaGreatDoor.Kx
open Go.RowKit Go.Proofs.YtfaeigbfnjkojaaGreatDoor.Cl
theorem wrapM (x : Nat) : IntKind.u64.wrap (x : Int) = ((x % M : Nat) : Int) := by rw [IntKind.wrap_u64]; unfold M; omega
theorem wrap_add (x y : Nat) : IntKind.u64.wrap ((x : Int) + (y : Int)) = (((x + y) % M : Nat) : Int) := by rw [← wrapM]; congr 1
theorem wrap_mul (x y : Nat) : IntKind.u64.wrap ((x : Int) * (y : Int)) = ((x * y % M : Nat) : Int) := by rw [← wrapM]; congr 1
theorem and_mask (x : Nat) (hx : x < M) : bits .and .u64 (x : Int) 2251799813685247 = ((x % W : Nat) : Int) := by
  have h := u64_and_nat x 2251799813685247 hx (by decide)
  rw [show ((2251799813685247 : Nat) : Int) = 2251799813685247 from rfl] at h
  rw [h]
  have h2 := Nat.and_two_pow_sub_one_eq_mod x 51
  rw [show (2 ^ 51 - 1 : Nat) = 2251799813685247 from rfl, show (2 ^ 51 : Nat) = W from rfl] at h2
  rw [h2]
theorem gate_ {P : Program} {ops : Array Oper} {rest : List Oper} {o : Oper} {a : Act} {w : World} {Q : Exit → Act → World → Prop} (h : wpList P ops Q (o :: rest) a w) : wpList P ops Q (o :: rest) a w := h
theorem row_blk {w : World} {b T : Nat} {xs : List Nat} (h : Row w b T xs) : Rg.Blk w b T (u64s xs) := h
theorem blk_other {w w' : World} {b g T : Nat} {cs : Array Value} (h : Rg.Blk w b T cs) (hg : w.grownBy w' (some g)) (hn : g ≠ b) : Rg.Blk w' b T cs := by
  have hl := h.lt
  unfold Rg.Blk at *
  rw [hg.block b hl (fun e => hn (Option.some.inj e).symm)]; exact h
theorem _root_.Go.RowKit.Below.size_le {B : Nat} {w w' : World} (h : Below B w w') (hB : w.heap.size = B) : B ≤ w'.heap.size := hB ▸ h.size
theorem row_set_cell {w : World} {b T j v : Nat} {l : List Nat} (h : Row w b T (l.set j v)) (hj : j < l.length) : w.cell? ⟨b, j, none⟩ = some (.int .u64 (v : Nat)) := by
  have h1 := h.cell j (by rw [List.length_set]; exact hj)
  rw [nth_set hj] at h1
  exact h1
def Z5 : Array Value := #[.int .u64 0, .int .u64 0, .int .u64 0, .int .u64 0, .int .u64 0]
theorem cr_eq (i : Nat) (s : Nat × List Nat) : cr i s = ((nth s.2 i + s.1) % M / W, s.2.set i ((nth s.2 i + s.1) % M % W)) := rfl
theorem u64s_size (x : E) : (u64s x.l).size = 5 := rfl
set_option maxRecDepth 20000 in
set_option maxHeartbeats 2000000 in
theorem carry_any (w : World) (x : E) : Calls Tryz.prog 46 #[.agg (u64s x.l)] w fun e w' => e = .returned (.agg (u64s (carry x).l)) ∧ Below w.heap.size w w' := by
  go_enter Tryz.func46, Tryz.ntmps46
  go_upto_region 1 with (refine Rg.box_fresh rfl 53 _ rfl (u64s x.l) rfl ?_; intro X hX hbX hnX; have HX := Lib.hid hX; have HBX := Lib.hid hbX; clear hX hbX hnX)
  obtain ⟨xb, hxb⟩ : ∃ xb, w.heap.size = xb := ⟨_, rfl⟩
  obtain ⟨rb, hrb⟩ : ∃ rb, X.heap.size = rb := ⟨_, rfl⟩
  have HR := Lib.hid (show Row (X.alloc (.cells Z5 53)) xb 53 x.l from (hxb ▸ HX.out).alloc _)
  have HZ := Lib.hid (show Rg.Blk (X.alloc (.cells Z5 53)) rb 53 Z5 from Rg.Blk.newAt hrb.symm _ _)
  have HB := Lib.hid (show Below xb w (X.alloc (.cells Z5 53)) from hxb ▸ HBX.out.alloc HBX.out.size _)
  have HNE := Lib.hid (show xb ≠ rb ∧ xb ≤ rb from by have h1 := HX.out.lt; constructor <;> omega)
  have HXB := Lib.hid hxb
  rw [hxb, hrb, show (#[.int .u64 0, .int .u64 0, .int .u64 0, .int .u64 0, .int .u64 0] : Array Value) = Z5 from rfl]
  generalize X.alloc (.cells Z5 53) = Y at *
  clear HX HBX hxb hrb
  go_upto_region 3 with fail
  go_loopw [3, 5] (fun c i wr => ∃ k : Nat, k ≤ 5 ∧ i = .int .i64 k ∧ c = .int .u64 ((it cr k (0, x.l)).1 : Nat) ∧ Row wr xb 53 (it cr k (0, x.l)).2 ∧ Rg.Blk wr rb 53 Z5 ∧ Below xb w wr) (fun _ i _ => 5 - (intOf i).toNat)
  case atStart => exact ⟨0, Nat.zero_le _, rfl, rfl, HR.out, HZ.out, HB.out⟩
  case round =>
    obtain ⟨k, hk, rfl, rfl, hr, hz, hb⟩ := hrel
    clear HR HZ HB
    have HR := Lib.hid hr
    have HZ := Lib.hid hz
    have HB := Lib.hid hb
    have HL := Lib.hid (show (it cr k (0, x.l)).2.length = 5 by rw [it_cr_len]; rfl)
    by_cases hk5 : k < 5
    · have hd : decide (k < 5) = true := by simp; exact hk5
      have hki : (k : Int) < 5 := by omega
      have hk0 : (0 : Int) ≤ k := by omega
      have c1 := hr.cell k (by rw [HL.out]; exact hk5)
      have hst : it cr (k + 1) (0, x.l) = cr k (it cr k (0, x.l)) := rfl
      rw [cr_eq] at hst
      clear hr hz hb
      obtain ⟨n1, hn1⟩ : ∃ n1, nth (it cr k (0, x.l)).2 k = n1 := ⟨_, rfl⟩
      obtain ⟨q1, hq1⟩ : ∃ q1, (it cr k (0, x.l)).1 = q1 := ⟨_, rfl⟩
      obtain ⟨v1, hv1⟩ : ∃ v1, (n1 + q1) % M = v1 := ⟨_, rfl⟩
      have e1 : IntKind.u64.wrap ((n1 : Int) + (q1 : Int)) = (v1 : Int) := by rw [wrap_add, hv1]
      have e2 : bits .and .u64 (v1 : Int) 2251799813685247 = ((v1 % W : Nat) : Int) := and_mask v1 (hv1 ▸ mod_lt_M _)
      have HN1 := Lib.hid hn1
      have HQ1 := Lib.hid hq1
      have HV1 := Lib.hid hv1
      rw [hn1] at c1
      rw [hn1, hq1, hv1] at hst
      have HST := Lib.hid hst
      rw [hq1]
      clear hn1 hq1 hv1 hst
      have HLK := Lib.hid (show k < (it cr k (0, x.l)).2.length by rw [HL.out]; exact hk5)
      have HLK2 := Lib.hid (show k < ((it cr k (0, x.l)).2.set k v1).length by rw [List.length_set, HL.out]; exact hk5)
      have tok1 := True.intro
      go_wp2_with (first
        | (have _t := tok1; (with_reducible refine gate_ ?_); refine store_cell rfl 50 _ _ rfl (b := xb) (j := k) (v := v1) rfl rfl Tryz.underlying50 (by kernel_rfl) HR.out HLK.out ?_; intro V hV hgV; have HRV := Lib.hid hV; have HZV := Lib.hid (blk_other HZ.out hgV HNE.out.1); have HBV := Lib.hid (HB.out.grown hgV (HB.out.size_le HXB.out) (fun j e => by cases e; exact Nat.le_refl _)); have c2 := row_set_cell hV HLK.out; clear hV hgV c1; have tok2 := True.intro; clear _t tok1)
        | (have _t := tok2; (with_reducible refine gate_ ?_); refine store_cell rfl 50 _ _ rfl (b := xb) (j := k) (v := v1 % W) rfl rfl Tryz.underlying50 (by kernel_rfl) HRV.out HLK2.out ?_; intro V2 hV hgV; rw [List.set_set] at hV; have HRW := Lib.hid hV; have HZW := Lib.hid (blk_other HZV.out hgV HNE.out.1); have HBW := Lib.hid (HBV.out.grown hgV (HBV.out.size_le HXB.out) (fun j e => by cases e; exact Nat.le_refl _)); clear hV hgV c2 _t tok2))
      go_roundw
      case rel =>
        have REL := Lib.hid (show ∃ k' : Nat, k' ≤ 5 ∧ Value.int .i64 ((k : Int) + 1) = .int .i64 k' ∧ Value.int .u64 ((v1 : Int) / 2251799813685248) = .int .u64 ((it cr k' (0, x.l)).1 : Nat) ∧ Row V2 xb 53 (it cr k' (0, x.l)).2 ∧ Rg.Blk V2 rb 53 Z5 ∧ Below xb w V2 from ⟨k + 1, hk5, rfl, by rw [HST.out]; rfl, by rw [HST.out]; exact HRW.out, HZW.out, HBW.out⟩)
        first
          | exact REL.out
          | ((repeat apply Exists.intro); refine ⟨?_, rfl⟩; exact REL.out)
      case measure => (first | (simp [intOf]; done) | (simp [intOf]; omega))
    · obtain rfl : k = 5 := by omega
      have hd : decide ((5 : Nat) < 5) = false := by simp
      have c1 := hr.cell 0 (by rw [HL.out]; decide)
      have HCI := Lib.hid (carry_it x)
      clear hr hz hb
      obtain ⟨q1, hq1⟩ : ∃ q1, (it cr 5 (0, x.l)).1 = q1 := ⟨_, rfl⟩
      obtain ⟨l1, hl1⟩ : ∃ l1, (it cr 5 (0, x.l)).2 = l1 := ⟨_, rfl⟩
      rw [hq1, hl1] at HCI
      rw [hl1] at c1 HR HL
      rw [hq1]
      obtain ⟨n1, hn1⟩ : ∃ n1, nth l1 0 = n1 := ⟨_, rfl⟩
      rw [hn1] at c1 HCI
      have e1 : IntKind.u64.wrap ((q1 : Int) * 19) = ((q1 * 19 % M : Nat) : Int) := wrap_mul q1 19
      have e2 : IntKind.u64.wrap ((n1 : Int) + ((q1 * 19 % M : Nat) : Int)) = (((n1 + q1 * 19 % M) % M : Nat) : Int) := wrap_add _ _
      have HLK := Lib.hid (show 0 < l1.length by rw [HL.out]; decide)
      clear hq1 hl1 hn1
      generalize hp1 : q1 * 19 % M = p1 at *
      generalize hv1 : (n1 + p1) % M = v1 at *
      clear hp1 hv1
      have tok1 := True.intro
      go_wp2_with (first
        | (have _t := tok1; (with_reducible refine gate_ ?_); refine store_cell rfl 50 _ _ rfl (b := xb) (j := 0) (v := v1) rfl rfl Tryz.underlying50 (by kernel_rfl) HR.out HLK.out ?_; intro V hV hgV; have HRV := Lib.hid hV; have HZV := Lib.hid (blk_other HZ.out hgV HNE.out.1); have HBV := Lib.hid (HB.out.grown hgV (HB.out.size_le HXB.out) (fun j e => by cases e; exact Nat.le_refl _)); rw [HCI.out] at HRV; clear hV hgV c1; clear _t tok1)
        | ((with_reducible refine gate_ ?_); refine Cv.load_cells rfl 53 _ rfl xb 0 rfl (u64s (carry x).l) _ (fun j v hv => by rw [Nat.zero_add]; exact Rg.Blk.cell (row_blk HRV.out) j hv) Tryz.underlying53 rfl (by rw [u64s_size]; kernel_rfl) ?_; skip)
        | ((with_reducible refine gate_ ?_); refine Cv.store_blk rfl 53 _ _ rfl rb (u64s (carry x).l) Z5 53 rfl rfl HZV.out (by rw [u64s_size]; kernel_rfl) rfl (u64s_one _) ?_; intro V3 hV hgV; have HZZ := Lib.hid hV; have HBZ := Lib.hid (HBV.out.grown hgV (HBV.out.size_le HXB.out) (fun j e => by cases e; exact HNE.out.2)); clear hV hgV))
      refine bodyPost_ret (v := .agg (u64s (carry x).l))
        (results_cell_row Tryz.results46 _ _ rb 53 _ (0, 0) _ rfl HZZ.out Tryz.underlying53 rfl (by rw [u64s_size]; kernel_rfl)) rfl ?_
      exact ⟨rfl, HXB.out ▸ HBZ.out⟩
end Go.Proofs.YtfaeigbfnjkojaaGreatDoor.Kx
