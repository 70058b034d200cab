/- Know.Learn: what it refuses. -/
import Derived.Test.YtfcemnebhapidaaDoorTmLp
import Derived.Test.YtfcemnebhapidaaDoorErrA
set_option linter.unusedVariables false
set_option linter.unusedSimpArgs false
namespace Go.Proofs.YtfcemnebhapidaaDoor.Te
open Go.RowKit Go.Proofs.YtfcemnebhapidaaDoor.Ow Go.Proofs.YtfcemnebhapidaaDoor.Mp Go.Maps
set_option maxRecDepth 20000 in
set_option maxHeartbeats 1000000 in
theorem Learn_zero (w : World) (kb : Nat) (a : Nat → Addr) (hE : ErrsT w a) :
    Calls Tryd.prog 16 #[.pointer (some ⟨kb, 0, none⟩), .agg #[.string ⟨#[]⟩, .string ⟨#[]⟩, .slice none 0 0]] w fun e w' => e = .returned (.iface 137 (.pointer (some (a 3)))) ∧ Below w.heap.size w w' := by
  have HE := Lib.hid (fun W (hW : Below w.heap.size w W) => show W.cell? ⟨0, 0, none⟩ = some (.iface 137 (.pointer (some (a 3)))) from (hE.below hW).cell 2 (by decide))
  clear hE
  go_enter Tryd.func16, Tryd.ntmps16
  go_upto_region 1 with (first
    | (refine Rg.box_fresh rfl 31 _ rfl #[.string ⟨#[]⟩, .string ⟨#[]⟩, .slice none 0 0] rfl ?_; intro X hX hbX hnX; have HX := Lib.hid hX; have HBX := Lib.hid hbX; clear hX hbX hnX))
  have x1 := HX.out.cell 1 (v := .string ⟨#[]⟩) rfl
  have e3 := HE.out _ HBX.out
  go_wp2
  go_ret
  exact ⟨rfl, HBX.out⟩
set_option maxRecDepth 20000 in
set_option maxHeartbeats 1000000 in
theorem Learn_full (w : World) (kb mb n N : Nat) (K : List Tm) (h : IsKn w kb mb n N K) (t : Tm) (ht : t.wf) (p : Value) (hp : TP w t p) (hn : 512 ≤ n) (a : Nat → Addr) (hE : ErrsT w a) :
    Calls Tryd.prog 16 #[.pointer (some ⟨kb, 0, none⟩), .agg (tv t p)] w fun e w' => e = .returned (.iface 137 (.pointer (some (a 7)))) ∧ Below w.heap.size w w' := by
  obtain ⟨A, c, rfl⟩ := hp.slice
  have HE := Lib.hid (fun W (hW : Below w.heap.size w W) => show W.cell? ⟨1, 0, none⟩ = some (.iface 137 (.pointer (some (a 7)))) from (hE.below hW).cell 6 (by decide))
  have HB := Lib.hid h.1
  have hte : ((strB (Tm.txt t)).toList == []) = false := by rw [strB_toList, beq_eq_false_iff_ne]; exact txt_ne ht
  have hd1 : decide (512 ≤ n) = true := by simp; exact hn
  have hd2 : decide ((512 : Int) ≤ n) = true := by simp; omega
  clear h ht hp hE
  go_enter Tryd.func16, Tryd.ntmps16
  go_upto_region 1 with (first
    | (refine Rg.box_fresh rfl 31 _ rfl #[.string (strB t.knd), .string (strB t.txt), .slice A t.prt.length c] rfl ?_; intro X hX hbX hnX; have HX := Lib.hid hX; have HBX := Lib.hid hbX; clear hX hbX hnX))
  have x1 := HX.out.cell 1 (v := .string (strB t.txt)) rfl
  have e3 := HE.out _ HBX.out
  have k0 := (HB.out.below HBX.out HB.out.lt).cell 0 (v := .int .i64 (n : Int)) rfl
  go_wp2
  go_ret
  exact ⟨rfl, HBX.out⟩
end Go.Proofs.YtfcemnebhapidaaDoor.Te
