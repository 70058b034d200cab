/- The field's Invert. -/
import Derived.Test.YtfaeigbfnjkojaaGreatDoorKxK
set_option linter.unusedVariables false
set_option linter.unusedSimpArgs false
namespace Go.Proofs.YtfaeigbfnjkojaaGreatDoor.Kx
open Go.RowKit Go.Proofs.YtfaeigbfnjkojaaGreatDoor.Cl
def inv (x : E) : E := pw 235 x 255
theorem inv_ok (x : E) : (inv x).ok := pw_ok 235 x 255
set_option maxRecDepth 20000 in
set_option maxHeartbeats 2000000 in
theorem Invert_any (w : World) (x : E) (hx : x.ok) : Calls Tryz.prog 25 #[.agg (u64s x.l)] w fun e w' => e = .returned (.agg (u64s (inv x).l)) ∧ Below w.heap.size w w' := by
  have HPW := Lib.hid (fun W => show Calls Tryz.prog 47 #[.agg (u64s x.l), .int .u64 21, .int .i64 0] W fun e w' => e = .returned (.agg (u64s (inv x).l)) ∧ Below W.heap.size W w' from power_any W x hx)
  clear hx
  generalize inv x = y at *
  go_enter Tryz.func25, Tryz.ntmps25
  go_upto_region 1 with ((with_reducible refine gate_ ?_); refine Rg.box_fresh rfl 53 _ rfl (u64s x.l) rfl ?_; intro X hX hbX hnX; have HX := Lib.hid hX; have HBX := Lib.hid hbX; have HNX := Lib.hid hnX; clear hX hbX hnX)
  obtain ⟨xb, hxb⟩ : ∃ xb, w.heap.size = xb := ⟨_, rfl⟩
  obtain ⟨rb, hrb⟩ : ∃ rb, X.heap.size = rb := ⟨_, rfl⟩
  have HR := Lib.hid (show Row (X.alloc (.cells Z5 53)) xb 53 x.l from (hxb ▸ HX.out).alloc _)
  have HZ := Lib.hid (show Rg.Blk (X.alloc (.cells Z5 53)) rb 53 Z5 from Rg.Blk.newAt hrb.symm _ _)
  have HB := Lib.hid (show Below xb w (X.alloc (.cells Z5 53)) from hxb ▸ HBX.out.alloc HBX.out.size _)
  have HNE := Lib.hid (show xb ≠ rb ∧ xb ≤ rb from by have h1 := HX.out.lt; constructor <;> omega)
  have HXB := Lib.hid hxb
  rw [hxb, hrb, show (#[.int .u64 0, .int .u64 0, .int .u64 0, .int .u64 0, .int .u64 0] : Array Value) = Z5 from rfl]
  generalize X.alloc (.cells Z5 53) = Y at *
  clear HX HBX HNX hxb hrb
  go_wp2_with (first
    | ((with_reducible refine gate_ ?_); refine Cv.load_cells rfl 53 _ rfl xb 0 rfl (u64s x.l) _ (fun j v hv => by rw [Nat.zero_add]; exact Rg.Blk.cell (row_blk HR.out) j hv) Tryz.underlying53 rfl (by rw [u64s_size]; kernel_rfl) ?_; skip)
    | (go_at_call 47; refine (HPW.out _).mono ?_; rintro e w9 ⟨rfl, hb9⟩; skip; have HZ9 := Lib.hid (HZ.out.below hb9 HZ.out.lt); have HB9 := Lib.hid (HB.out.trans (hb9.mono (HB.out.size_le HXB.out))); clear hb9)
    | ((with_reducible refine gate_ ?_); refine Cv.store_blk rfl 53 _ _ rfl rb (u64s y.l) Z5 53 rfl rfl HZ9.out (by rw [u64s_size]; kernel_rfl) (by rw [u64s_size]; first | rfl | rw [u64s_size]) (u64s_one _) ?_; intro V3 hV hgV; have HZZ := Lib.hid hV; have HBZ := Lib.hid (HB9.out.grown hgV (HB9.out.size_le HXB.out) (fun j e => by cases e; exact HNE.out.2)); clear hV hgV))
  refine bodyPost_ret (v := .agg (u64s (y).l))
    (results_cell_row Tryz.results25 _ _ rb 53 _ (0, 0) _ rfl HZZ.out Tryz.underlying53 rfl (by rw [u64s_size]; kernel_rfl)) rfl ?_
  exact ⟨rfl, HXB.out ▸ HBZ.out⟩
end Go.Proofs.YtfaeigbfnjkojaaGreatDoor.Kx
