/- curve.Base; kex.Share. -/
import Derived.Test.YtfaeigbfnjkojaaGreatDoorKxU
import Derived.Test.YtfaeigbfnjkojaaGreatDoorKxV
import Derived.Test.YtfaeigbfnjkojaaGreatDoorErrW
import Derived.Test.YtfaeigbfnjkojaaGreatDoorBytesEq
set_option linter.unusedVariables false
set_option linter.unusedSimpArgs false
namespace Go.Proofs.YtfaeigbfnjkojaaGreatDoor.Kx
open Go.RowKit Go.Proofs.YtfaeigbfnjkojaaGreatDoor.Cl
theorem tables_later {w w' : World} (h : Sha.Tables w) (hb : Below w.heap.size w w') : Sha.Tables w' := h.below hb h.size
theorem Wrap_any (w : World) (name : ByteArray) (p : Value) : Calls Tryz.prog 19 #[.string name, .iface 183 p] w fun e w' => e = .returned (.iface 78 (.pointer (some ⟨w.heap.size, 0, none⟩))) ∧ Rg.Blk w' w.heap.size 82 #[.string name, .iface 183 p] ∧ Below w.heap.size w w' := by
  go_enter Tryz.func19, Tryz.ntmps19
  go_wp2_with fail
  go_ret
  exact ⟨rfl, Rg.Blk.new w _ _, (Below.refl _ _).alloc (Nat.le_refl _) _⟩
theorem kb_eq9 : Cv.bytesV (kB 9) = (#[.int .u8 9, .int .u8 0, .int .u8 0, .int .u8 0, .int .u8 0, .int .u8 0, .int .u8 0, .int .u8 0, .int .u8 0, .int .u8 0, .int .u8 0, .int .u8 0, .int .u8 0, .int .u8 0, .int .u8 0, .int .u8 0, .int .u8 0, .int .u8 0, .int .u8 0, .int .u8 0, .int .u8 0, .int .u8 0, .int .u8 0, .int .u8 0, .int .u8 0, .int .u8 0, .int .u8 0, .int .u8 0, .int .u8 0, .int .u8 0, .int .u8 0, .int .u8 0] : Array Value) := by
  unfold Cv.bytesV
  rfl
theorem kb_eq1 : Cv.bytesV (kB 1) = (#[.int .u8 1, .int .u8 0, .int .u8 0, .int .u8 0, .int .u8 0, .int .u8 0, .int .u8 0, .int .u8 0, .int .u8 0, .int .u8 0, .int .u8 0, .int .u8 0, .int .u8 0, .int .u8 0, .int .u8 0, .int .u8 0, .int .u8 0, .int .u8 0, .int .u8 0, .int .u8 0, .int .u8 0, .int .u8 0, .int .u8 0, .int .u8 0, .int .u8 0, .int .u8 0, .int .u8 0, .int .u8 0, .int .u8 0, .int .u8 0, .int .u8 0, .int .u8 0] : Array Value) := by
  unfold Cv.bytesV
  rfl
theorem kb_eq0 : Cv.bytesV (kB 0) = (#[.int .u8 0, .int .u8 0, .int .u8 0, .int .u8 0, .int .u8 0, .int .u8 0, .int .u8 0, .int .u8 0, .int .u8 0, .int .u8 0, .int .u8 0, .int .u8 0, .int .u8 0, .int .u8 0, .int .u8 0, .int .u8 0, .int .u8 0, .int .u8 0, .int .u8 0, .int .u8 0, .int .u8 0, .int .u8 0, .int .u8 0, .int .u8 0, .int .u8 0, .int .u8 0, .int .u8 0, .int .u8 0, .int .u8 0, .int .u8 0, .int .u8 0, .int .u8 0] : Array Value) := by
  unfold Cv.bytesV
  rfl
set_option maxRecDepth 20000 in
set_option maxHeartbeats 2000000 in
theorem Base_any (w : World) (k : List UInt8) (hk : k.length = 32) :
    Calls Tryz.prog 17 #[.agg (Cv.bytesV k)] w fun e w' => e = .returned (.agg (Cv.bytesV (bytesE (mulK k (kB 9))))) ∧ Below w.heap.size w w' := by
  obtain ⟨o, ho⟩ : ∃ o, bytesE (mulK k (kB 9)) = o := ⟨_, rfl⟩
  obtain ⟨z, hz⟩ : ∃ z, (!zero (mulK k (kB 9))) = z := ⟨_, rfl⟩
  have HMU := Lib.hid (fun W => show Calls Tryz.prog 9 #[.agg (Cv.bytesV k), .agg (#[.int .u8 9, .int .u8 0, .int .u8 0, .int .u8 0, .int .u8 0, .int .u8 0, .int .u8 0, .int .u8 0, .int .u8 0, .int .u8 0, .int .u8 0, .int .u8 0, .int .u8 0, .int .u8 0, .int .u8 0, .int .u8 0, .int .u8 0, .int .u8 0, .int .u8 0, .int .u8 0, .int .u8 0, .int .u8 0, .int .u8 0, .int .u8 0, .int .u8 0, .int .u8 0, .int .u8 0, .int .u8 0, .int .u8 0, .int .u8 0, .int .u8 0, .int .u8 0] : Array Value)] W fun e w' => e = .returned (.tuple #[.agg (Cv.bytesV o), .bool z]) ∧ Below W.heap.size W w' from by
    have := Mult_any W k (kB 9) hk rfl
    rwa [ho, hz, kb_eq9] at this)
  have HOS := Lib.hid (show (Cv.bytesV o).size = 32 from by rw [← ho, Cv.bytesV_size, bytesE_len])
  have HLkb := Lib.hid hk
  rw [ho]
  clear ho hz hk
  go_enter Tryz.func17, Tryz.ntmps17
  go_upto_region 1 with ((with_reducible refine gate_ ?_); refine Rg.box_fresh rfl 22 _ rfl (Cv.bytesV k) rfl ?_; intro X hX hbX hnX; have HX := Lib.hid hX; have HBX := Lib.hid hbX; have HNX := Lib.hid hnX; clear hX hbX hnX)
  obtain ⟨kb, hkb⟩ : ∃ n, w.heap.size = n := ⟨_, rfl⟩
  obtain ⟨rb, hrb⟩ : ∃ n, X.heap.size = n := ⟨_, rfl⟩
  have HK := Lib.hid (show Rg.Blk (X.alloc (.cells (#[.int .u8 0, .int .u8 0, .int .u8 0, .int .u8 0, .int .u8 0, .int .u8 0, .int .u8 0, .int .u8 0, .int .u8 0, .int .u8 0, .int .u8 0, .int .u8 0, .int .u8 0, .int .u8 0, .int .u8 0, .int .u8 0, .int .u8 0, .int .u8 0, .int .u8 0, .int .u8 0, .int .u8 0, .int .u8 0, .int .u8 0, .int .u8 0, .int .u8 0, .int .u8 0, .int .u8 0, .int .u8 0, .int .u8 0, .int .u8 0, .int .u8 0, .int .u8 0] : Array Value) 22)) kb 22 (Cv.bytesV k) from (hkb ▸ HX.out).alloc _)
  have HZ := Lib.hid (show Rg.Blk (X.alloc (.cells (#[.int .u8 0, .int .u8 0, .int .u8 0, .int .u8 0, .int .u8 0, .int .u8 0, .int .u8 0, .int .u8 0, .int .u8 0, .int .u8 0, .int .u8 0, .int .u8 0, .int .u8 0, .int .u8 0, .int .u8 0, .int .u8 0, .int .u8 0, .int .u8 0, .int .u8 0, .int .u8 0, .int .u8 0, .int .u8 0, .int .u8 0, .int .u8 0, .int .u8 0, .int .u8 0, .int .u8 0, .int .u8 0, .int .u8 0, .int .u8 0, .int .u8 0, .int .u8 0] : Array Value) 22)) rb 22 (#[.int .u8 0, .int .u8 0, .int .u8 0, .int .u8 0, .int .u8 0, .int .u8 0, .int .u8 0, .int .u8 0, .int .u8 0, .int .u8 0, .int .u8 0, .int .u8 0, .int .u8 0, .int .u8 0, .int .u8 0, .int .u8 0, .int .u8 0, .int .u8 0, .int .u8 0, .int .u8 0, .int .u8 0, .int .u8 0, .int .u8 0, .int .u8 0, .int .u8 0, .int .u8 0, .int .u8 0, .int .u8 0, .int .u8 0, .int .u8 0, .int .u8 0, .int .u8 0] : Array Value) from Rg.Blk.newAt hrb.symm _ _)
  have HB := Lib.hid (show Below kb w (X.alloc (.cells (#[.int .u8 0, .int .u8 0, .int .u8 0, .int .u8 0, .int .u8 0, .int .u8 0, .int .u8 0, .int .u8 0, .int .u8 0, .int .u8 0, .int .u8 0, .int .u8 0, .int .u8 0, .int .u8 0, .int .u8 0, .int .u8 0, .int .u8 0, .int .u8 0, .int .u8 0, .int .u8 0, .int .u8 0, .int .u8 0, .int .u8 0, .int .u8 0, .int .u8 0, .int .u8 0, .int .u8 0, .int .u8 0, .int .u8 0, .int .u8 0, .int .u8 0, .int .u8 0] : Array Value) 22)) from hkb ▸ HBX.out.alloc HBX.out.size _)
  have HN := Lib.hid (show kb ≤ rb from by have h1 := HNX.out; omega)
  have HKB := Lib.hid hkb
  try rw [hkb]
  try rw [hrb]
  generalize X.alloc (.cells (#[.int .u8 0, .int .u8 0, .int .u8 0, .int .u8 0, .int .u8 0, .int .u8 0, .int .u8 0, .int .u8 0, .int .u8 0, .int .u8 0, .int .u8 0, .int .u8 0, .int .u8 0, .int .u8 0, .int .u8 0, .int .u8 0, .int .u8 0, .int .u8 0, .int .u8 0, .int .u8 0, .int .u8 0, .int .u8 0, .int .u8 0, .int .u8 0, .int .u8 0, .int .u8 0, .int .u8 0, .int .u8 0, .int .u8 0, .int .u8 0, .int .u8 0, .int .u8 0] : Array Value) 22) = Y at *
  clear HX HBX HNX hkb hrb
  go_upto_region 2 with (first
    | ((with_reducible refine gate_ ?_); refine Cv.load_cells rfl 22 _ rfl kb 0 rfl (Cv.bytesV (k)) _ (fun j v hv => by rw [Nat.zero_add]; exact HK.out.cell j hv) Tryz.underlying22 rfl (by rw [Cv.bytesV_size, HLkb.out]; kernel_rfl) ?_; skip)
    | (go_at_call 9; refine (HMU.out _).mono ?_; rintro e w9 ⟨rfl, hb9⟩; skip; have HB9 := Lib.hid hb9; clear hb9)
    | (refine Rg.store_fresh rfl 22 _ _ rfl (Cv.bytesV o) _ 22 rfl rfl (by rw [HOS.out]; kernel_rfl) (by rw [HOS.out]; rfl) (Cv.bytesV_one _) ?_; intro V1 hX hbX; have HV1 := Lib.hid hX; have HBV := Lib.hid hbX; clear hX hbX))
  obtain ⟨vb, hvb⟩ : ∃ n, w9.heap.size = n := ⟨_, rfl⟩
  have HV1 := Lib.hid (hvb ▸ HV1.out)
  try rw [hvb]
  have HBV := Lib.hid (HB9.out.trans (HBV.out.mono HB9.out.size))
  have HZ := Lib.hid (HZ.out.below HBV.out HZ.out.lt)
  have HB := Lib.hid (HB.out.trans (HBV.out.mono (HB.out.size_le HKB.out)))
  clear HB9 hvb HBV HK HMU
  go_wp2_with (first
    | ((with_reducible refine gate_ ?_); refine Cv.load_cells rfl 22 _ rfl vb 0 rfl (Cv.bytesV o) _ (fun j v hv => by rw [Nat.zero_add]; exact HV1.out.cell j hv) Tryz.underlying22 rfl (by rw [HOS.out]; kernel_rfl) ?_; skip)
    | ((with_reducible refine gate_ ?_); refine Cv.store_blk rfl 22 _ _ rfl rb (Cv.bytesV o) (#[.int .u8 0, .int .u8 0, .int .u8 0, .int .u8 0, .int .u8 0, .int .u8 0, .int .u8 0, .int .u8 0, .int .u8 0, .int .u8 0, .int .u8 0, .int .u8 0, .int .u8 0, .int .u8 0, .int .u8 0, .int .u8 0, .int .u8 0, .int .u8 0, .int .u8 0, .int .u8 0, .int .u8 0, .int .u8 0, .int .u8 0, .int .u8 0, .int .u8 0, .int .u8 0, .int .u8 0, .int .u8 0, .int .u8 0, .int .u8 0, .int .u8 0, .int .u8 0] : Array Value) 22 rfl rfl HZ.out (by rw [HOS.out]; kernel_rfl) (by rw [HOS.out]; rfl) (Cv.bytesV_one _) ?_; intro V3 hV hgV; have HZZ := Lib.hid hV; have HBZ := Lib.hid (HB.out.grown hgV (HB.out.size_le HKB.out) (fun j e => by cases e; exact HN.out)); clear hV hgV))
  refine bodyPost_ret (v := .agg (Cv.bytesV o))
    (results_cell_row Tryz.results17 _ _ rb 22 _ (0, 0) _ rfl HZZ.out Tryz.underlying22 rfl (by rw [HOS.out]; kernel_rfl)) rfl ?_
  exact ⟨rfl, HKB.out ▸ HBZ.out⟩
set_option maxRecDepth 20000 in
set_option maxHeartbeats 2000000 in
theorem Share_ok (w : World) (k p : List UInt8) (hk : k.length = 32) (hp : p.length = 32) (hz : zero (mulK k p) = false) :
    Calls Tryz.prog 8 #[.agg (Cv.bytesV k), .agg (Cv.bytesV p)] w fun e w' => e = .returned (.tuple #[.agg (Cv.bytesV (bytesE (mulK k p))), .nilIface]) ∧ Below w.heap.size w w' := by
  obtain ⟨o, ho⟩ : ∃ o, bytesE (mulK k p) = o := ⟨_, rfl⟩
  have HMU := Lib.hid (fun W => show Calls Tryz.prog 9 #[.agg (Cv.bytesV k), .agg (Cv.bytesV p)] W fun e w' => e = .returned (.tuple #[.agg (Cv.bytesV o), .bool true]) ∧ Below W.heap.size W w' from by
    have := Mult_any W k p hk hp
    rwa [ho, hz] at this)
  have HOS := Lib.hid (show (Cv.bytesV o).size = 32 from by rw [← ho, Cv.bytesV_size, bytesE_len])
  have HLkb := Lib.hid hk
  have HLpb := Lib.hid hp
  have HO := Lib.hid ho
  clear ho hz hk hp
  go_enter Tryz.func8, Tryz.ntmps8
  have tok1 := True.intro
  go_upto_region 1 with (first
    | (have _t := tok1; (with_reducible refine gate_ ?_); refine Rg.box_fresh rfl 22 _ rfl (Cv.bytesV k) rfl ?_; intro X hX hbX hnX; have HX := Lib.hid hX; have HBX := Lib.hid hbX; have HNX := Lib.hid hnX; clear hX hbX hnX; have tok2 := True.intro; clear _t tok1)
    | (have _t := tok2; (with_reducible refine gate_ ?_); refine Rg.box_fresh rfl 22 _ rfl (Cv.bytesV p) rfl ?_; intro X2 hX hbX hnX; have HX2 := Lib.hid hX; have HBX2 := Lib.hid hbX; have HNX2 := Lib.hid hnX; clear hX hbX hnX; clear _t tok2))
  obtain ⟨kb, hkb⟩ : ∃ n, w.heap.size = n := ⟨_, rfl⟩
  obtain ⟨pb, hpb⟩ : ∃ n, X.heap.size = n := ⟨_, rfl⟩
  obtain ⟨rb, hrb⟩ : ∃ n, X2.heap.size = n := ⟨_, rfl⟩
  have HK := Lib.hid (show Rg.Blk (X2.alloc (.cells (#[.int .u8 0, .int .u8 0, .int .u8 0, .int .u8 0, .int .u8 0, .int .u8 0, .int .u8 0, .int .u8 0, .int .u8 0, .int .u8 0, .int .u8 0, .int .u8 0, .int .u8 0, .int .u8 0, .int .u8 0, .int .u8 0, .int .u8 0, .int .u8 0, .int .u8 0, .int .u8 0, .int .u8 0, .int .u8 0, .int .u8 0, .int .u8 0, .int .u8 0, .int .u8 0, .int .u8 0, .int .u8 0, .int .u8 0, .int .u8 0, .int .u8 0, .int .u8 0] : Array Value) 22)) kb 22 (Cv.bytesV k) from ((hkb ▸ HX.out).below HBX2.out (by rw [← hkb]; exact HX.out.lt)).alloc _)
  have HP := Lib.hid (show Rg.Blk (X2.alloc (.cells (#[.int .u8 0, .int .u8 0, .int .u8 0, .int .u8 0, .int .u8 0, .int .u8 0, .int .u8 0, .int .u8 0, .int .u8 0, .int .u8 0, .int .u8 0, .int .u8 0, .int .u8 0, .int .u8 0, .int .u8 0, .int .u8 0, .int .u8 0, .int .u8 0, .int .u8 0, .int .u8 0, .int .u8 0, .int .u8 0, .int .u8 0, .int .u8 0, .int .u8 0, .int .u8 0, .int .u8 0, .int .u8 0, .int .u8 0, .int .u8 0, .int .u8 0, .int .u8 0] : Array Value) 22)) pb 22 (Cv.bytesV p) from (hpb ▸ HX2.out).alloc _)
  have HZ := Lib.hid (show Rg.Blk (X2.alloc (.cells (#[.int .u8 0, .int .u8 0, .int .u8 0, .int .u8 0, .int .u8 0, .int .u8 0, .int .u8 0, .int .u8 0, .int .u8 0, .int .u8 0, .int .u8 0, .int .u8 0, .int .u8 0, .int .u8 0, .int .u8 0, .int .u8 0, .int .u8 0, .int .u8 0, .int .u8 0, .int .u8 0, .int .u8 0, .int .u8 0, .int .u8 0, .int .u8 0, .int .u8 0, .int .u8 0, .int .u8 0, .int .u8 0, .int .u8 0, .int .u8 0, .int .u8 0, .int .u8 0] : Array Value) 22)) rb 22 (#[.int .u8 0, .int .u8 0, .int .u8 0, .int .u8 0, .int .u8 0, .int .u8 0, .int .u8 0, .int .u8 0, .int .u8 0, .int .u8 0, .int .u8 0, .int .u8 0, .int .u8 0, .int .u8 0, .int .u8 0, .int .u8 0, .int .u8 0, .int .u8 0, .int .u8 0, .int .u8 0, .int .u8 0, .int .u8 0, .int .u8 0, .int .u8 0, .int .u8 0, .int .u8 0, .int .u8 0, .int .u8 0, .int .u8 0, .int .u8 0, .int .u8 0, .int .u8 0] : Array Value) from Rg.Blk.newAt hrb.symm _ _)
  have HB := Lib.hid (show Below kb w (X2.alloc (.cells (#[.int .u8 0, .int .u8 0, .int .u8 0, .int .u8 0, .int .u8 0, .int .u8 0, .int .u8 0, .int .u8 0, .int .u8 0, .int .u8 0, .int .u8 0, .int .u8 0, .int .u8 0, .int .u8 0, .int .u8 0, .int .u8 0, .int .u8 0, .int .u8 0, .int .u8 0, .int .u8 0, .int .u8 0, .int .u8 0, .int .u8 0, .int .u8 0, .int .u8 0, .int .u8 0, .int .u8 0, .int .u8 0, .int .u8 0, .int .u8 0, .int .u8 0, .int .u8 0] : Array Value) 22)) from hkb ▸ (HBX.out.trans (HBX2.out.mono HBX.out.size)).alloc (Nat.le_trans HBX.out.size HBX2.out.size) _)
  have HN := Lib.hid (show kb ≤ rb from by have h1 := HNX.out; have h2 := HNX2.out; omega)
  have HKB := Lib.hid hkb
  try rw [hkb]
  try rw [hpb]
  try rw [hrb]
  generalize X2.alloc (.cells (#[.int .u8 0, .int .u8 0, .int .u8 0, .int .u8 0, .int .u8 0, .int .u8 0, .int .u8 0, .int .u8 0, .int .u8 0, .int .u8 0, .int .u8 0, .int .u8 0, .int .u8 0, .int .u8 0, .int .u8 0, .int .u8 0, .int .u8 0, .int .u8 0, .int .u8 0, .int .u8 0, .int .u8 0, .int .u8 0, .int .u8 0, .int .u8 0, .int .u8 0, .int .u8 0, .int .u8 0, .int .u8 0, .int .u8 0, .int .u8 0, .int .u8 0, .int .u8 0] : Array Value) 22) = Y at *
  clear HX HBX HNX HX2 HBX2 HNX2 hkb hpb hrb
  go_upto_region 2 with (first
    | ((with_reducible refine gate_ ?_); refine Cv.load_cells rfl 22 _ rfl kb 0 rfl (Cv.bytesV (k)) _ (fun j v hv => by rw [Nat.zero_add]; exact HK.out.cell j hv) Tryz.underlying22 rfl (by rw [Cv.bytesV_size, HLkb.out]; kernel_rfl) ?_; skip)
    | ((with_reducible refine gate_ ?_); refine Cv.load_cells rfl 22 _ rfl pb 0 rfl (Cv.bytesV (p)) _ (fun j v hv => by rw [Nat.zero_add]; exact HP.out.cell j hv) Tryz.underlying22 rfl (by rw [Cv.bytesV_size, HLpb.out]; kernel_rfl) ?_; skip)
    | (go_at_call 9; refine (HMU.out _).mono ?_; rintro e w9 ⟨rfl, hb9⟩; skip; have HB9 := Lib.hid hb9; clear hb9)
    | (refine Rg.store_fresh rfl 22 _ _ rfl (Cv.bytesV o) _ 22 rfl rfl (by rw [HOS.out]; kernel_rfl) (by rw [HOS.out]; rfl) (Cv.bytesV_one _) ?_; intro V1 hX hbX; have HV1 := Lib.hid hX; have HBV := Lib.hid hbX; clear hX hbX))
  obtain ⟨vb, hvb⟩ : ∃ n, w9.heap.size = n := ⟨_, rfl⟩
  have HV1 := Lib.hid (hvb ▸ HV1.out)
  try rw [hvb]
  have HBV := Lib.hid (HB9.out.trans (HBV.out.mono HB9.out.size))
  have HNV := Lib.hid (show vb ≠ rb from by have h1 := HB9.out.size; have h2 := HZ.out.lt; omega)
  have HZ := Lib.hid (HZ.out.below HBV.out HZ.out.lt)
  have HB := Lib.hid (HB.out.trans (HBV.out.mono (HB.out.size_le HKB.out)))
  clear HB9 hvb HBV HK HP HMU
  go_wp2_with (first
    | ((with_reducible refine gate_ ?_); refine Cv.load_cells rfl 22 _ rfl vb 0 rfl (Cv.bytesV o) _ (fun j v hv => by rw [Nat.zero_add]; exact HV1.out.cell j hv) Tryz.underlying22 rfl (by rw [HOS.out]; kernel_rfl) ?_; skip)
    | ((with_reducible refine gate_ ?_); refine Cv.store_blk rfl 22 _ _ rfl rb (Cv.bytesV o) (#[.int .u8 0, .int .u8 0, .int .u8 0, .int .u8 0, .int .u8 0, .int .u8 0, .int .u8 0, .int .u8 0, .int .u8 0, .int .u8 0, .int .u8 0, .int .u8 0, .int .u8 0, .int .u8 0, .int .u8 0, .int .u8 0, .int .u8 0, .int .u8 0, .int .u8 0, .int .u8 0, .int .u8 0, .int .u8 0, .int .u8 0, .int .u8 0, .int .u8 0, .int .u8 0, .int .u8 0, .int .u8 0, .int .u8 0, .int .u8 0, .int .u8 0, .int .u8 0] : Array Value) 22 rfl rfl HZ.out (by rw [HOS.out]; kernel_rfl) (by rw [HOS.out]; rfl) (Cv.bytesV_one _) ?_; intro V3 hV hgV; have HZZ := Lib.hid hV; have HBZ := Lib.hid (HB.out.grown hgV (HB.out.size_le HKB.out) (fun j e => by cases e; exact HN.out)); clear hV hgV))
  refine bodyPost_ret (v := .tuple #[.agg (Cv.bytesV o), .nilIface])
    (results_cell_slot Tryz.results8 _ _ rb 22 _ (0, 0) _ _ rfl rfl HZZ.out Tryz.underlying22 rfl (by rw [HOS.out]; kernel_rfl)) rfl ?_
  exact ⟨by rw [HO.out], HKB.out ▸ HBZ.out⟩
set_option maxRecDepth 20000 in
set_option maxHeartbeats 2000000 in
theorem Share_no (w : World) (k p : List UInt8) (hk : k.length = 32) (hp : p.length = 32) (a : Nat → Addr) (hE : Ei.ErrsAll w a) (hz : zero (mulK k p) = true) :
    Calls Tryz.prog 8 #[.agg (Cv.bytesV k), .agg (Cv.bytesV p)] w fun e w' => ∃ fb, e = .returned (.tuple #[.agg (Cv.bytesV (kB 0)), .iface 78 (.pointer (some ⟨fb, 0, none⟩))]) ∧ Rg.Blk w' fb 82 #[.string ⟨#[107, 101, 120]⟩, .iface 183 (.pointer (some (a 10)))] ∧ Below w.heap.size w w' := by
  obtain ⟨o, ho⟩ : ∃ o, bytesE (mulK k p) = o := ⟨_, rfl⟩
  have HMU := Lib.hid (fun W => show Calls Tryz.prog 9 #[.agg (Cv.bytesV k), .agg (Cv.bytesV p)] W fun e w' => e = .returned (.tuple #[.agg (Cv.bytesV o), .bool false]) ∧ Below W.heap.size W w' from by
    have := Mult_any W k p hk hp
    rwa [ho, hz] at this)
  have HOS := Lib.hid (show (Cv.bytesV o).size = 32 from by rw [← ho, Cv.bytesV_size, bytesE_len])
  have HLkb := Lib.hid hk
  have HLpb := Lib.hid hp
  have HO := Lib.hid ho
  have HE := Lib.hid hE
  clear hE
  clear ho hz hk hp
  go_enter Tryz.func8, Tryz.ntmps8
  have tok1 := True.intro
  go_upto_region 1 with (first
    | (have _t := tok1; (with_reducible refine gate_ ?_); refine Rg.box_fresh rfl 22 _ rfl (Cv.bytesV k) rfl ?_; intro X hX hbX hnX; have HX := Lib.hid hX; have HBX := Lib.hid hbX; have HNX := Lib.hid hnX; clear hX hbX hnX; have tok2 := True.intro; clear _t tok1)
    | (have _t := tok2; (with_reducible refine gate_ ?_); refine Rg.box_fresh rfl 22 _ rfl (Cv.bytesV p) rfl ?_; intro X2 hX hbX hnX; have HX2 := Lib.hid hX; have HBX2 := Lib.hid hbX; have HNX2 := Lib.hid hnX; clear hX hbX hnX; clear _t tok2))
  obtain ⟨kb, hkb⟩ : ∃ n, w.heap.size = n := ⟨_, rfl⟩
  obtain ⟨pb, hpb⟩ : ∃ n, X.heap.size = n := ⟨_, rfl⟩
  obtain ⟨rb, hrb⟩ : ∃ n, X2.heap.size = n := ⟨_, rfl⟩
  have HK := Lib.hid (show Rg.Blk (X2.alloc (.cells (#[.int .u8 0, .int .u8 0, .int .u8 0, .int .u8 0, .int .u8 0, .int .u8 0, .int .u8 0, .int .u8 0, .int .u8 0, .int .u8 0, .int .u8 0, .int .u8 0, .int .u8 0, .int .u8 0, .int .u8 0, .int .u8 0, .int .u8 0, .int .u8 0, .int .u8 0, .int .u8 0, .int .u8 0, .int .u8 0, .int .u8 0, .int .u8 0, .int .u8 0, .int .u8 0, .int .u8 0, .int .u8 0, .int .u8 0, .int .u8 0, .int .u8 0, .int .u8 0] : Array Value) 22)) kb 22 (Cv.bytesV k) from ((hkb ▸ HX.out).below HBX2.out (by rw [← hkb]; exact HX.out.lt)).alloc _)
  have HP := Lib.hid (show Rg.Blk (X2.alloc (.cells (#[.int .u8 0, .int .u8 0, .int .u8 0, .int .u8 0, .int .u8 0, .int .u8 0, .int .u8 0, .int .u8 0, .int .u8 0, .int .u8 0, .int .u8 0, .int .u8 0, .int .u8 0, .int .u8 0, .int .u8 0, .int .u8 0, .int .u8 0, .int .u8 0, .int .u8 0, .int .u8 0, .int .u8 0, .int .u8 0, .int .u8 0, .int .u8 0, .int .u8 0, .int .u8 0, .int .u8 0, .int .u8 0, .int .u8 0, .int .u8 0, .int .u8 0, .int .u8 0] : Array Value) 22)) pb 22 (Cv.bytesV p) from (hpb ▸ HX2.out).alloc _)
  have HZ := Lib.hid (show Rg.Blk (X2.alloc (.cells (#[.int .u8 0, .int .u8 0, .int .u8 0, .int .u8 0, .int .u8 0, .int .u8 0, .int .u8 0, .int .u8 0, .int .u8 0, .int .u8 0, .int .u8 0, .int .u8 0, .int .u8 0, .int .u8 0, .int .u8 0, .int .u8 0, .int .u8 0, .int .u8 0, .int .u8 0, .int .u8 0, .int .u8 0, .int .u8 0, .int .u8 0, .int .u8 0, .int .u8 0, .int .u8 0, .int .u8 0, .int .u8 0, .int .u8 0, .int .u8 0, .int .u8 0, .int .u8 0] : Array Value) 22)) rb 22 (#[.int .u8 0, .int .u8 0, .int .u8 0, .int .u8 0, .int .u8 0, .int .u8 0, .int .u8 0, .int .u8 0, .int .u8 0, .int .u8 0, .int .u8 0, .int .u8 0, .int .u8 0, .int .u8 0, .int .u8 0, .int .u8 0, .int .u8 0, .int .u8 0, .int .u8 0, .int .u8 0, .int .u8 0, .int .u8 0, .int .u8 0, .int .u8 0, .int .u8 0, .int .u8 0, .int .u8 0, .int .u8 0, .int .u8 0, .int .u8 0, .int .u8 0, .int .u8 0] : Array Value) from Rg.Blk.newAt hrb.symm _ _)
  have HB := Lib.hid (show Below kb w (X2.alloc (.cells (#[.int .u8 0, .int .u8 0, .int .u8 0, .int .u8 0, .int .u8 0, .int .u8 0, .int .u8 0, .int .u8 0, .int .u8 0, .int .u8 0, .int .u8 0, .int .u8 0, .int .u8 0, .int .u8 0, .int .u8 0, .int .u8 0, .int .u8 0, .int .u8 0, .int .u8 0, .int .u8 0, .int .u8 0, .int .u8 0, .int .u8 0, .int .u8 0, .int .u8 0, .int .u8 0, .int .u8 0, .int .u8 0, .int .u8 0, .int .u8 0, .int .u8 0, .int .u8 0] : Array Value) 22)) from hkb ▸ (HBX.out.trans (HBX2.out.mono HBX.out.size)).alloc (Nat.le_trans HBX.out.size HBX2.out.size) _)
  have HN := Lib.hid (show kb ≤ rb from by have h1 := HNX.out; have h2 := HNX2.out; omega)
  have HKB := Lib.hid hkb
  have HE := Lib.hid (HE.out.below (show Below w.heap.size w _ from hkb ▸ HB.out))
  try rw [hkb]
  try rw [hpb]
  try rw [hrb]
  generalize X2.alloc (.cells (#[.int .u8 0, .int .u8 0, .int .u8 0, .int .u8 0, .int .u8 0, .int .u8 0, .int .u8 0, .int .u8 0, .int .u8 0, .int .u8 0, .int .u8 0, .int .u8 0, .int .u8 0, .int .u8 0, .int .u8 0, .int .u8 0, .int .u8 0, .int .u8 0, .int .u8 0, .int .u8 0, .int .u8 0, .int .u8 0, .int .u8 0, .int .u8 0, .int .u8 0, .int .u8 0, .int .u8 0, .int .u8 0, .int .u8 0, .int .u8 0, .int .u8 0, .int .u8 0] : Array Value) 22) = Y at *
  clear HX HBX HNX HX2 HBX2 HNX2 hkb hpb hrb
  go_upto_region 2 with (first
    | ((with_reducible refine gate_ ?_); refine Cv.load_cells rfl 22 _ rfl kb 0 rfl (Cv.bytesV (k)) _ (fun j v hv => by rw [Nat.zero_add]; exact HK.out.cell j hv) Tryz.underlying22 rfl (by rw [Cv.bytesV_size, HLkb.out]; kernel_rfl) ?_; skip)
    | ((with_reducible refine gate_ ?_); refine Cv.load_cells rfl 22 _ rfl pb 0 rfl (Cv.bytesV (p)) _ (fun j v hv => by rw [Nat.zero_add]; exact HP.out.cell j hv) Tryz.underlying22 rfl (by rw [Cv.bytesV_size, HLpb.out]; kernel_rfl) ?_; skip)
    | (go_at_call 9; refine (HMU.out _).mono ?_; rintro e w9 ⟨rfl, hb9⟩; skip; have HB9 := Lib.hid hb9; clear hb9)
    | (refine Rg.store_fresh rfl 22 _ _ rfl (Cv.bytesV o) _ 22 rfl rfl (by rw [HOS.out]; kernel_rfl) (by rw [HOS.out]; rfl) (Cv.bytesV_one _) ?_; intro V1 hX hbX; have HV1 := Lib.hid hX; have HBV := Lib.hid hbX; clear hX hbX))
  obtain ⟨vb, hvb⟩ : ∃ n, w9.heap.size = n := ⟨_, rfl⟩
  have HV1 := Lib.hid (hvb ▸ HV1.out)
  try rw [hvb]
  have HBV := Lib.hid (HB9.out.trans (HBV.out.mono HB9.out.size))
  have HNV := Lib.hid (show vb ≠ rb from by have h1 := HB9.out.size; have h2 := HZ.out.lt; omega)
  have HZ := Lib.hid (HZ.out.below HBV.out HZ.out.lt)
  have HE := Lib.hid (HE.out.below HBV.out)
  have HB := Lib.hid (HB.out.trans (HBV.out.mono (HB.out.size_le HKB.out)))
  clear HB9 hvb HBV HK HP HMU
  have ce : V1.cell? ⟨0, 0, none⟩ = some (.iface 183 (.pointer (some (a 10)))) := HE.out.cell 9 (by decide)
  go_wp2_with (first
    | (go_at_call 19; refine (Wrap_any _ ⟨#[107, 101, 120]⟩ _).mono ?_; rintro e w2 ⟨rfl, hf, hb2⟩; skip; have HF := Lib.hid hf; have HB2 := Lib.hid hb2; have HZ2 := Lib.hid (HZ.out.below hb2 HZ.out.lt); have HFL := Lib.hid (show rb < V1.heap.size from HZ.out.lt); clear hf hb2)
    | ((with_reducible refine gate_ ?_); refine Cv.store_blk rfl 22 _ _ rfl rb (#[.int .u8 0, .int .u8 0, .int .u8 0, .int .u8 0, .int .u8 0, .int .u8 0, .int .u8 0, .int .u8 0, .int .u8 0, .int .u8 0, .int .u8 0, .int .u8 0, .int .u8 0, .int .u8 0, .int .u8 0, .int .u8 0, .int .u8 0, .int .u8 0, .int .u8 0, .int .u8 0, .int .u8 0, .int .u8 0, .int .u8 0, .int .u8 0, .int .u8 0, .int .u8 0, .int .u8 0, .int .u8 0, .int .u8 0, .int .u8 0, .int .u8 0, .int .u8 0] : Array Value) (#[.int .u8 0, .int .u8 0, .int .u8 0, .int .u8 0, .int .u8 0, .int .u8 0, .int .u8 0, .int .u8 0, .int .u8 0, .int .u8 0, .int .u8 0, .int .u8 0, .int .u8 0, .int .u8 0, .int .u8 0, .int .u8 0, .int .u8 0, .int .u8 0, .int .u8 0, .int .u8 0, .int .u8 0, .int .u8 0, .int .u8 0, .int .u8 0, .int .u8 0, .int .u8 0, .int .u8 0, .int .u8 0, .int .u8 0, .int .u8 0, .int .u8 0, .int .u8 0] : Array Value) 22 rfl rfl HZ2.out (by kernel_rfl) rfl (by simp [Value.oneCell']) ?_; intro V3 hV hgV; have HZZ := Lib.hid hV; have HG3 := Lib.hid hgV; clear hV hgV))
  obtain ⟨fb, hfb⟩ : ∃ n, V1.heap.size = n := ⟨_, rfl⟩
  have HF3 := Lib.hid (blk_other (hfb ▸ HF.out) HG3.out (by have := HFL.out; omega))
  have HBZ := Lib.hid ((HB.out.trans (HB2.out.mono (HB.out.size_le HKB.out))).grown HG3.out (Nat.le_trans (HB.out.size_le HKB.out) HB2.out.size) (fun j e => by cases e; exact HN.out))
  try rw [hfb]
  refine bodyPost_ret (v := .tuple #[.agg (#[.int .u8 0, .int .u8 0, .int .u8 0, .int .u8 0, .int .u8 0, .int .u8 0, .int .u8 0, .int .u8 0, .int .u8 0, .int .u8 0, .int .u8 0, .int .u8 0, .int .u8 0, .int .u8 0, .int .u8 0, .int .u8 0, .int .u8 0, .int .u8 0, .int .u8 0, .int .u8 0, .int .u8 0, .int .u8 0, .int .u8 0, .int .u8 0, .int .u8 0, .int .u8 0, .int .u8 0, .int .u8 0, .int .u8 0, .int .u8 0, .int .u8 0, .int .u8 0] : Array Value), .iface 78 (.pointer (some ⟨fb, 0, none⟩))])
    (results_cell_slot Tryz.results8 _ _ rb 22 _ (0, 0) _ _ rfl (by simp [hfb]) HZZ.out Tryz.underlying22 rfl (by kernel_rfl)) rfl ?_
  exact ⟨fb, by rw [← zero32]; rfl, HF3.out, HKB.out ▸ HBZ.out⟩
end Go.Proofs.YtfaeigbfnjkojaaGreatDoor.Kx
