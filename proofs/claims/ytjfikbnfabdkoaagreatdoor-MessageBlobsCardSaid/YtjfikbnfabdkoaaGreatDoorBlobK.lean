/- KeyBlob, SignBlob, BlobKey, BlobSign; the reference's Blob and Open. -/
import Derived.Test.YtjfikbnfabdkoaaGreatDoorBlob
import Derived.Test.YtjfikbnfabdkoaaGreatDoorBytesEq
set_option linter.unusedVariables false
set_option linter.unusedSimpArgs false
namespace Go.Proofs.YtjfikbnfabdkoaaGreatDoor.Bl
open Go.RowKit Go.Proofs.YtjfikbnfabdkoaaGreatDoor.Wi Go.Proofs.YtjfikbnfabdkoaaGreatDoor.Ow Go.Proofs.YtjfikbnfabdkoaaGreatDoor.Be Go.Proofs.YtjfikbnfabdkoaaGreatDoor.Cv
variable {P : Program}
theorem results_cell_tmp {fn : Func} {p u : Tmp} {ty : TypeId} (h : fn.results = #[.cell p ty, .tmp u]) (tmps : Array Value) (w : World) (g : Nat) (t : TypeId) (cs : Array Value) (fr : Nat × Nat) (d : TypeDesc)
    (hp : tmps.getD p undef = .pointer (some ⟨g, 0, none⟩)) (hg : w.heap[g]? = some (.cells cs t fr))
    (hu : P.underlying ty = some d) (hd : (match d with | .struct _ | .array _ _ => true | _ => false) = true) (hi : (P.info? ty).map (·.size) = some cs.size) :
    (results fn tmps).run P w = .ok (.tuple #[.agg cs, tmps.getD u undef]) w := by
  have hp' : tmps[p]?.getD undef = .pointer (some ⟨g, 0, none⟩) := by simpa using hp
  simp [results, h, hp', asAddr, run_loadVar_row w g t ty cs fr d hg hu hd hi]
/-- zeros -/
@[irreducible] def zB (n : Nat) : List UInt8 := List.replicate n 0
theorem zB_length (n : Nat) : (zB n).length = n := by unfold zB; exact List.length_replicate
/-- the errors' values by their numbers -/
def eB (a : Nat → Addr) (c : Nat) : Value := .iface 162 (.pointer (some (a c)))
theorem errsB {w : World} {a : Nat → Addr} (h : Ei.ErrsAll w a) : Errs w (eB a) :=
  ⟨fun k _ => ⟨_, rfl⟩, h.cell 3 (by decide), h.cell 2 (by decide), h.cell 1 (by decide)⟩
theorem Wrap_any (w : World) (name : ByteArray) (p : Value) : Calls Tryz.prog 20 #[.string name, .iface 162 p] w fun e w' => e = .returned (.iface 63 (.pointer (some ⟨w.heap.size, 0, none⟩))) ∧ Rg.Blk w' w.heap.size 67 #[.string name, .iface 162 p] ∧ Below w.heap.size w w' := by
  go_enter Tryz.func20, Tryz.ntmps20
  go_wp2_with fail
  go_ret
  exact ⟨rfl, Rg.Blk.new w _ _, (Below.refl _ _).alloc (Nat.le_refl _) _⟩
theorem KeyBlob_any (w : World) (l : List UInt8) (hl : l.length = 32) :
    Calls Tryz.prog 6 #[.agg (bytesV l)] w fun e w' => e = .returned (.string (mkS (blobL l))) ∧ Below w.heap.size w w' := by
  have HL := Lib.hid hl
  have HBL := Lib.hid (show ∀ W, Calls Tryz.prog 18 #[.string ⟨l.toArray⟩] W fun e w' => e = .returned (.string (mkS (blobL l))) ∧ Below W.heap.size W w' from fun W => blob_any W ⟨l.toArray⟩ (by show l.toArray.size ≤ 1000; rw [List.size_toArray]; omega))
  clear hl
  go_enter Tryz.func6, Tryz.ntmps6
  go_wp2_with (first
    | (refine Rg.box_fresh rfl 22 _ rfl _ rfl ?_; intro V hK hbV hnV; have HK := Lib.hid hK; have HBV := Lib.hid hbV; clear hK hbV hnV)
    | (refine conv_string rfl 26 5 9 _ rfl Tryz.underlying26 Tryz.underlying5 Tryz.underlying9 w.heap.size 0 32 32 l rfl HL.out (Bytes.of_blk HK.out) ?_; skip)
    | (go_at_call 18; refine (HBL.out _).mono ?_; rintro e w2 ⟨rfl, hb2⟩; skip; have HB2 := Lib.hid (HBV.out.trans (hb2.mono HBV.out.size)); clear hb2))
  go_ret
  exact ⟨rfl, HB2.out⟩
theorem zero_key : bytesV (zB 32) = #[.int .u8 0, .int .u8 0, .int .u8 0, .int .u8 0, .int .u8 0, .int .u8 0, .int .u8 0, .int .u8 0, .int .u8 0, .int .u8 0, .int .u8 0, .int .u8 0, .int .u8 0, .int .u8 0, .int .u8 0, .int .u8 0, .int .u8 0, .int .u8 0, .int .u8 0, .int .u8 0, .int .u8 0, .int .u8 0, .int .u8 0, .int .u8 0, .int .u8 0, .int .u8 0, .int .u8 0, .int .u8 0, .int .u8 0, .int .u8 0, .int .u8 0, .int .u8 0] := by unfold bytesV zB; rfl
theorem BlobKey_ok (w : World) (a : Nat → Addr) (hE : Ei.ErrsAll w a) (s : ByteArray) (hs : s.size ≤ 1000000) (hc : opC s 32 10 = 0) :
    Calls Tryz.prog 8 #[.string s] w fun e w' => e = .returned (.tuple #[.agg (bytesV (opX s).data.toList), .nilIface]) ∧ Below w.heap.size w w' := by
  have hR := opR_size s 32 10 (by decide) hc
  obtain ⟨r, hr⟩ : ∃ r, opX s = r := ⟨_, rfl⟩
  have hz : r.size = 32 := by rw [← hr, ← hR.2]; exact hR.1
  have HZ := Lib.hid hz
  have HV := Lib.hid (show (bytesV r.data.toList).size = 32 by rw [bytesV_size, len_list, hz])
  have HO := Lib.hid (show ∀ W, Below w.heap.size w W → Calls Tryz.prog 19 #[.string s, .int .i64 32, .iface 162 (.pointer (some (a 10)))] W fun e w' => e = .returned (.tuple #[.string r, .nilIface]) ∧ Below W.heap.size W w' from fun W hW => by
    have := open_any W (eB a) (errsB (hE.below hW)) s hs 32 10 (by decide)
    rw [hc, hR.2, hr] at this
    exact this)
  rw [hr]
  have HE := Lib.hid (fun W (hW : Below w.heap.size w W) => show W.cell? ⟨0, 0, none⟩ = some (.iface 162 (.pointer (some (a 10)))) from (hE.below hW).cell 9 (by decide))
  clear hE hs hc hR hr hz
  go_enter Tryz.func8, Tryz.ntmps8
  go_upto_region 1 with (fail)
  generalize hX : World.alloc w _ = X
  have HBX := Lib.hid (show Below w.heap.size w X by subst hX; exact (Below.refl _ _).alloc (Nat.le_refl _) _)
  have HRX := Lib.hid (show ∃ cs : Array Value, cs.size = 32 ∧ Rg.Blk X w.heap.size 22 cs by subst hX; exact ⟨_, rfl, Rg.Blk.new _ _ _⟩)
  have hXs : w.heap.size < X.heap.size := by obtain ⟨cs, _, h⟩ := HRX.out; exact h.lt
  have e1 := HE.out X HBX.out
  clear hX
  go_wp2_with (first
    | (go_at_call 19; refine (HO.out _ HBX.out).mono ?_; rintro e w2 ⟨rfl, hb2⟩; skip; have HB2 := Lib.hid hb2; clear hb2)
    | (refine conv_bytes rfl 9 26 5 _ rfl rfl Tryz.underlying9 Tryz.underlying26 Tryz.underlying5 ?_; intro Y cap hY hfY hbY hnY hcY; have HY := Lib.hid hY; have HBY := Lib.hid hbY; clear hY hfY hbY hnY hcY)
    | (refine slice_to_array rfl 22 5 32 _ rfl _ _ _ _ rfl Tryz.underlying22 (by rw [HZ.out]; decide) ?_)
    | (refine load_cells rfl 22 _ rfl _ 0 rfl (bytesV r.data.toList) _ HY.out.cells Tryz.underlying22 rfl (by rw [HV.out]; kernel_rfl) ?_)
    | (obtain ⟨cs, hcs, hB⟩ := HRX.out
       refine store_blk rfl 22 _ _ rfl w.heap.size _ cs 22 rfl rfl ((hB.below HB2.out hXs).below HBY.out (by have := HB2.out.size; omega)) (by rw [HV.out]; kernel_rfl) (by rw [hcs, HV.out]) (bytesV_one _) ?_
       intro Z hZ hgZ; have HZZ := Lib.hid hZ; have HGZ := Lib.hid hgZ; clear hZ hgZ hcs hB))
  exact bodyPost_ret (v := .tuple #[.agg (bytesV r.data.toList), .nilIface])
    (results_cell_tmp Tryz.results8 _ _ w.heap.size 22 _ (0, 0) _ rfl HZZ.out Tryz.underlying22 rfl (by rw [HV.out]; kernel_rfl)) rfl
    ⟨rfl, ((HBX.out.trans (HB2.out.mono (by omega))).trans (HBY.out.mono (by have := HB2.out.size; omega))).grown HGZ.out (by have := HB2.out.size; have := HBY.out.size; omega) (fun k hk => by cases hk; exact Nat.le_refl _)⟩
theorem BlobKey_bad (w : World) (a : Nat → Addr) (hE : Ei.ErrsAll w a) (s : ByteArray) (hs : s.size ≤ 1000000) (hc : opC s 32 10 ≠ 0) :
    Calls Tryz.prog 8 #[.string s] w fun e w' => ∃ fb, e = .returned (.tuple #[.agg (bytesV (zB 32)), .iface 63 (.pointer (some ⟨fb, 0, none⟩))]) ∧ Rg.Blk w' fb 67 #[.string ⟨#[107, 101, 121]⟩, .iface 162 (.pointer (some (a (opC s 32 10))))] ∧ Below w.heap.size w w' := by
  obtain ⟨c, hcc⟩ : ∃ c, opC s 32 10 = c := ⟨_, rfl⟩
  have HV := Lib.hid (show (bytesV (zB 32)).size = 32 by rw [bytesV_size, zB_length])
  have HQ := Lib.hid zero_key
  have HO := Lib.hid (show ∀ W, Below w.heap.size w W → Calls Tryz.prog 19 #[.string s, .int .i64 32, .iface 162 (.pointer (some (a 10)))] W fun e w' => e = .returned (.tuple #[.string ⟨#[]⟩, .iface 162 (.pointer (some (a c)))]) ∧ Below W.heap.size W w' from fun W hW => by
    have := open_any W (eB a) (errsB (hE.below hW)) s hs 32 10 (by decide)
    rw [evV_pos _ hc, show opR s 32 10 = ⟨#[]⟩ by unfold opR; rw [if_neg hc], hcc] at this
    exact this)
  rw [hcc]
  have HE := Lib.hid (fun W (hW : Below w.heap.size w W) => show W.cell? ⟨0, 0, none⟩ = some (.iface 162 (.pointer (some (a 10)))) from (hE.below hW).cell 9 (by decide))
  clear hE hs hc hcc
  go_enter Tryz.func8, Tryz.ntmps8
  go_upto_region 1 with (fail)
  generalize hX : World.alloc w _ = X
  have HBX := Lib.hid (show Below w.heap.size w X by subst hX; exact (Below.refl _ _).alloc (Nat.le_refl _) _)
  have HRX := Lib.hid (show ∃ cs : Array Value, cs.size = 32 ∧ Rg.Blk X w.heap.size 22 cs by subst hX; exact ⟨_, rfl, Rg.Blk.new _ _ _⟩)
  have hXs : w.heap.size < X.heap.size := by obtain ⟨cs, _, h⟩ := HRX.out; exact h.lt
  have e1 := HE.out X HBX.out
  clear hX
  go_wp2_with (first
    | (go_at_call 19; refine (HO.out _ HBX.out).mono ?_; rintro e w2 ⟨rfl, hb2⟩; skip; have HB2 := Lib.hid hb2; clear hb2)
    | (go_at_call 20; refine (Wrap_any _ _ _).mono ?_; rintro e w3 ⟨rfl, hf3, hb3⟩; skip; have HF3 := Lib.hid hf3; have HB3 := Lib.hid hb3; clear hf3 hb3)
    | (obtain ⟨cs, hcs, hB⟩ := HRX.out
       refine store_blk rfl 22 _ _ rfl w.heap.size #[.int .u8 0, .int .u8 0, .int .u8 0, .int .u8 0, .int .u8 0, .int .u8 0, .int .u8 0, .int .u8 0, .int .u8 0, .int .u8 0, .int .u8 0, .int .u8 0, .int .u8 0, .int .u8 0, .int .u8 0, .int .u8 0, .int .u8 0, .int .u8 0, .int .u8 0, .int .u8 0, .int .u8 0, .int .u8 0, .int .u8 0, .int .u8 0, .int .u8 0, .int .u8 0, .int .u8 0, .int .u8 0, .int .u8 0, .int .u8 0, .int .u8 0, .int .u8 0] cs 22 rfl rfl ((hB.below HB2.out hXs).below HB3.out (by have := HB2.out.size; omega)) (by kernel_rfl) (by rw [hcs]; rfl) (by rw [← HQ.out]; exact bytesV_one _) ?_
       intro Z hZ hgZ; have HZZ := Lib.hid hZ; have HGZ := Lib.hid hgZ; clear hZ hgZ hcs hB))
  rw [HQ.out]
  exact bodyPost_ret
    (results_cell_tmp Tryz.results8 _ _ w.heap.size 22 _ (0, 0) _ rfl HZZ.out Tryz.underlying22 rfl (by kernel_rfl)) rfl
    ⟨w2.heap.size, rfl, blk_grown HF3.out HGZ.out (by have := HB2.out.size; omega), ((HBX.out.trans (HB2.out.mono (by omega))).trans (HB3.out.mono (by have := HB2.out.size; omega))).grown HGZ.out (by have := HB2.out.size; have := HB3.out.size; omega) (fun k hk => by cases hk; exact Nat.le_refl _)⟩
theorem SignBlob_any (w : World) (l : List UInt8) (hl : l.length = 64) :
    Calls Tryz.prog 7 #[.agg (bytesV l)] w fun e w' => e = .returned (.string (mkS (blobL l))) ∧ Below w.heap.size w w' := by
  have HL := Lib.hid hl
  have HBL := Lib.hid (show ∀ W, Calls Tryz.prog 18 #[.string ⟨l.toArray⟩] W fun e w' => e = .returned (.string (mkS (blobL l))) ∧ Below W.heap.size W w' from fun W => blob_any W ⟨l.toArray⟩ (by show l.toArray.size ≤ 1000; rw [List.size_toArray]; omega))
  clear hl
  go_enter Tryz.func7, Tryz.ntmps7
  go_wp2_with (first
    | (refine Rg.box_fresh rfl 25 _ rfl _ rfl ?_; intro V hK hbV hnV; have HK := Lib.hid hK; have HBV := Lib.hid hbV; clear hK hbV hnV)
    | (refine conv_string rfl 26 5 9 _ rfl Tryz.underlying26 Tryz.underlying5 Tryz.underlying9 w.heap.size 0 64 64 l rfl HL.out (Bytes.of_blk HK.out) ?_; skip)
    | (go_at_call 18; refine (HBL.out _).mono ?_; rintro e w2 ⟨rfl, hb2⟩; skip; have HB2 := Lib.hid (HBV.out.trans (hb2.mono HBV.out.size)); clear hb2))
  go_ret
  exact ⟨rfl, HB2.out⟩
theorem zero_sig : bytesV (zB 64) = #[.int .u8 0, .int .u8 0, .int .u8 0, .int .u8 0, .int .u8 0, .int .u8 0, .int .u8 0, .int .u8 0, .int .u8 0, .int .u8 0, .int .u8 0, .int .u8 0, .int .u8 0, .int .u8 0, .int .u8 0, .int .u8 0, .int .u8 0, .int .u8 0, .int .u8 0, .int .u8 0, .int .u8 0, .int .u8 0, .int .u8 0, .int .u8 0, .int .u8 0, .int .u8 0, .int .u8 0, .int .u8 0, .int .u8 0, .int .u8 0, .int .u8 0, .int .u8 0, .int .u8 0, .int .u8 0, .int .u8 0, .int .u8 0, .int .u8 0, .int .u8 0, .int .u8 0, .int .u8 0, .int .u8 0, .int .u8 0, .int .u8 0, .int .u8 0, .int .u8 0, .int .u8 0, .int .u8 0, .int .u8 0, .int .u8 0, .int .u8 0, .int .u8 0, .int .u8 0, .int .u8 0, .int .u8 0, .int .u8 0, .int .u8 0, .int .u8 0, .int .u8 0, .int .u8 0, .int .u8 0, .int .u8 0, .int .u8 0, .int .u8 0, .int .u8 0] := by unfold bytesV zB; rfl
theorem BlobSign_ok (w : World) (a : Nat → Addr) (hE : Ei.ErrsAll w a) (s : ByteArray) (hs : s.size ≤ 1000000) (hc : opC s 64 11 = 0) :
    Calls Tryz.prog 9 #[.string s] w fun e w' => e = .returned (.tuple #[.agg (bytesV (opX s).data.toList), .nilIface]) ∧ Below w.heap.size w w' := by
  have hR := opR_size s 64 11 (by decide) hc
  obtain ⟨r, hr⟩ : ∃ r, opX s = r := ⟨_, rfl⟩
  have hz : r.size = 64 := by rw [← hr, ← hR.2]; exact hR.1
  have HZ := Lib.hid hz
  have HV := Lib.hid (show (bytesV r.data.toList).size = 64 by rw [bytesV_size, len_list, hz])
  have HO := Lib.hid (show ∀ W, Below w.heap.size w W → Calls Tryz.prog 19 #[.string s, .int .i64 64, .iface 162 (.pointer (some (a 11)))] W fun e w' => e = .returned (.tuple #[.string r, .nilIface]) ∧ Below W.heap.size W w' from fun W hW => by
    have := open_any W (eB a) (errsB (hE.below hW)) s hs 64 11 (by decide)
    rw [hc, hR.2, hr] at this
    exact this)
  rw [hr]
  have HE := Lib.hid (fun W (hW : Below w.heap.size w W) => show W.cell? ⟨1, 0, none⟩ = some (.iface 162 (.pointer (some (a 11)))) from (hE.below hW).cell 10 (by decide))
  clear hE hs hc hR hr hz
  go_enter Tryz.func9, Tryz.ntmps9
  go_upto_region 1 with (fail)
  generalize hX : World.alloc w _ = X
  have HBX := Lib.hid (show Below w.heap.size w X by subst hX; exact (Below.refl _ _).alloc (Nat.le_refl _) _)
  have HRX := Lib.hid (show ∃ cs : Array Value, cs.size = 64 ∧ Rg.Blk X w.heap.size 25 cs by subst hX; exact ⟨_, rfl, Rg.Blk.new _ _ _⟩)
  have hXs : w.heap.size < X.heap.size := by obtain ⟨cs, _, h⟩ := HRX.out; exact h.lt
  have e1 := HE.out X HBX.out
  clear hX
  go_wp2_with (first
    | (go_at_call 19; refine (HO.out _ HBX.out).mono ?_; rintro e w2 ⟨rfl, hb2⟩; skip; have HB2 := Lib.hid hb2; clear hb2)
    | (refine conv_bytes rfl 9 26 5 _ rfl rfl Tryz.underlying9 Tryz.underlying26 Tryz.underlying5 ?_; intro Y cap hY hfY hbY hnY hcY; have HY := Lib.hid hY; have HBY := Lib.hid hbY; clear hY hfY hbY hnY hcY)
    | (refine slice_to_array rfl 25 5 64 _ rfl _ _ _ _ rfl Tryz.underlying25 (by rw [HZ.out]; decide) ?_)
    | (refine load_cells rfl 25 _ rfl _ 0 rfl (bytesV r.data.toList) _ HY.out.cells Tryz.underlying25 rfl (by rw [HV.out]; kernel_rfl) ?_)
    | (obtain ⟨cs, hcs, hB⟩ := HRX.out
       refine store_blk rfl 25 _ _ rfl w.heap.size _ cs 25 rfl rfl ((hB.below HB2.out hXs).below HBY.out (by have := HB2.out.size; omega)) (by rw [HV.out]; kernel_rfl) (by rw [hcs, HV.out]) (bytesV_one _) ?_
       intro Z hZ hgZ; have HZZ := Lib.hid hZ; have HGZ := Lib.hid hgZ; clear hZ hgZ hcs hB))
  exact bodyPost_ret (v := .tuple #[.agg (bytesV r.data.toList), .nilIface])
    (results_cell_tmp Tryz.results9 _ _ w.heap.size 25 _ (0, 0) _ rfl HZZ.out Tryz.underlying25 rfl (by rw [HV.out]; kernel_rfl)) rfl
    ⟨rfl, ((HBX.out.trans (HB2.out.mono (by omega))).trans (HBY.out.mono (by have := HB2.out.size; omega))).grown HGZ.out (by have := HB2.out.size; have := HBY.out.size; omega) (fun k hk => by cases hk; exact Nat.le_refl _)⟩
theorem BlobSign_bad (w : World) (a : Nat → Addr) (hE : Ei.ErrsAll w a) (s : ByteArray) (hs : s.size ≤ 1000000) (hc : opC s 64 11 ≠ 0) :
    Calls Tryz.prog 9 #[.string s] w fun e w' => ∃ fb, e = .returned (.tuple #[.agg (bytesV (zB 64)), .iface 63 (.pointer (some ⟨fb, 0, none⟩))]) ∧ Rg.Blk w' fb 67 #[.string ⟨#[115, 105, 103, 110, 97, 116, 117, 114, 101]⟩, .iface 162 (.pointer (some (a (opC s 64 11))))] ∧ Below w.heap.size w w' := by
  obtain ⟨c, hcc⟩ : ∃ c, opC s 64 11 = c := ⟨_, rfl⟩
  have HV := Lib.hid (show (bytesV (zB 64)).size = 64 by rw [bytesV_size, zB_length])
  have HQ := Lib.hid zero_sig
  have HO := Lib.hid (show ∀ W, Below w.heap.size w W → Calls Tryz.prog 19 #[.string s, .int .i64 64, .iface 162 (.pointer (some (a 11)))] W fun e w' => e = .returned (.tuple #[.string ⟨#[]⟩, .iface 162 (.pointer (some (a c)))]) ∧ Below W.heap.size W w' from fun W hW => by
    have := open_any W (eB a) (errsB (hE.below hW)) s hs 64 11 (by decide)
    rw [evV_pos _ hc, show opR s 64 11 = ⟨#[]⟩ by unfold opR; rw [if_neg hc], hcc] at this
    exact this)
  rw [hcc]
  have HE := Lib.hid (fun W (hW : Below w.heap.size w W) => show W.cell? ⟨1, 0, none⟩ = some (.iface 162 (.pointer (some (a 11)))) from (hE.below hW).cell 10 (by decide))
  clear hE hs hc hcc
  go_enter Tryz.func9, Tryz.ntmps9
  go_upto_region 1 with (fail)
  generalize hX : World.alloc w _ = X
  have HBX := Lib.hid (show Below w.heap.size w X by subst hX; exact (Below.refl _ _).alloc (Nat.le_refl _) _)
  have HRX := Lib.hid (show ∃ cs : Array Value, cs.size = 64 ∧ Rg.Blk X w.heap.size 25 cs by subst hX; exact ⟨_, rfl, Rg.Blk.new _ _ _⟩)
  have hXs : w.heap.size < X.heap.size := by obtain ⟨cs, _, h⟩ := HRX.out; exact h.lt
  have e1 := HE.out X HBX.out
  clear hX
  go_wp2_with (first
    | (go_at_call 19; refine (HO.out _ HBX.out).mono ?_; rintro e w2 ⟨rfl, hb2⟩; skip; have HB2 := Lib.hid hb2; clear hb2)
    | (go_at_call 20; refine (Wrap_any _ _ _).mono ?_; rintro e w3 ⟨rfl, hf3, hb3⟩; skip; have HF3 := Lib.hid hf3; have HB3 := Lib.hid hb3; clear hf3 hb3)
    | (obtain ⟨cs, hcs, hB⟩ := HRX.out
       refine store_blk rfl 25 _ _ rfl w.heap.size #[.int .u8 0, .int .u8 0, .int .u8 0, .int .u8 0, .int .u8 0, .int .u8 0, .int .u8 0, .int .u8 0, .int .u8 0, .int .u8 0, .int .u8 0, .int .u8 0, .int .u8 0, .int .u8 0, .int .u8 0, .int .u8 0, .int .u8 0, .int .u8 0, .int .u8 0, .int .u8 0, .int .u8 0, .int .u8 0, .int .u8 0, .int .u8 0, .int .u8 0, .int .u8 0, .int .u8 0, .int .u8 0, .int .u8 0, .int .u8 0, .int .u8 0, .int .u8 0, .int .u8 0, .int .u8 0, .int .u8 0, .int .u8 0, .int .u8 0, .int .u8 0, .int .u8 0, .int .u8 0, .int .u8 0, .int .u8 0, .int .u8 0, .int .u8 0, .int .u8 0, .int .u8 0, .int .u8 0, .int .u8 0, .int .u8 0, .int .u8 0, .int .u8 0, .int .u8 0, .int .u8 0, .int .u8 0, .int .u8 0, .int .u8 0, .int .u8 0, .int .u8 0, .int .u8 0, .int .u8 0, .int .u8 0, .int .u8 0, .int .u8 0, .int .u8 0] cs 25 rfl rfl ((hB.below HB2.out hXs).below HB3.out (by have := HB2.out.size; omega)) (by kernel_rfl) (by rw [hcs]; rfl) (by rw [← HQ.out]; exact bytesV_one _) ?_
       intro Z hZ hgZ; have HZZ := Lib.hid hZ; have HGZ := Lib.hid hgZ; clear hZ hgZ hcs hB))
  rw [HQ.out]
  exact bodyPost_ret
    (results_cell_tmp Tryz.results9 _ _ w.heap.size 25 _ (0, 0) _ rfl HZZ.out Tryz.underlying25 rfl (by kernel_rfl)) rfl
    ⟨w2.heap.size, rfl, blk_grown HF3.out HGZ.out (by have := HB2.out.size; omega), ((HBX.out.trans (HB2.out.mono (by omega))).trans (HB3.out.mono (by have := HB2.out.size; omega))).grown HGZ.out (by have := HB2.out.size; have := HB3.out.size; omega) (fun k hk => by cases hk; exact Nat.le_refl _)⟩
theorem blob_cat (s : ByteArray) : mkS (textL algoB.data.toList) ++ mkS (textL s.data.toList) = mkS (blobL s.data.toList) := by rw [mkS_append]; rfl
set_option maxHeartbeats 400000 in
theorem RefBlob_any (w : World) (s : ByteArray) (hs : s.size ≤ 1000) :
    Calls Tryz.prog 10 #[.string s] w fun e w' => e = .returned (.string (mkS (blobL s.data.toList))) ∧ Below w.heap.size w w' := by
  have HA := Lib.hid (show ∀ W, Calls Tryz.prog 21 #[.string ⟨#[115, 115, 104, 45, 101, 100, 50, 53, 53, 49, 57]⟩] W fun e w' => e = .returned (.string (mkS (textL algoB.data.toList))) ∧ Below W.heap.size W w' from fun W => by
    rw [algo_eq]
    exact RefText_any W algoB (by rw [algo_size]; decide))
  have HT := Lib.hid (show ∀ W, Calls Tryz.prog 21 #[.string s] W fun e w' => e = .returned (.string (mkS (textL s.data.toList))) ∧ Below W.heap.size W w' from fun W => RefText_any W s (by omega))
  have h1 : ¬ 9223372036854775807 < (mkS (textL algoB.data.toList)).size + (mkS (textL s.data.toList)).size := by
    rw [mkS_size, mkS_size]; unfold textL; simp only [List.length_append, be_length, len_list, algo_size]; omega
  have HC := Lib.hid (blob_cat s)
  clear hs
  generalize mkS (textL algoB.data.toList) = x at *
  generalize mkS (textL s.data.toList) = y at *
  have tok := True.intro
  go_enter Tryz.func10, Tryz.ntmps10
  go_wp2_with (first
    | (go_at_call 21; have _t := tok; refine (HA.out _).mono ?_; rintro e w1 ⟨rfl, hb1⟩; skip; have HB1 := Lib.hid hb1; have tok2 := True.intro; clear hb1 _t tok)
    | (go_at_call 21; have _t := tok2; refine (HT.out _).mono ?_; rintro e w2 ⟨rfl, hb2⟩; skip; have HB2 := Lib.hid (HB1.out.trans (hb2.mono HB1.out.size)); clear hb2 _t tok2))
  go_ret
  exact ⟨by rw [← HC.out]; rfl, HB2.out⟩
set_option maxRecDepth 20000 in
set_option maxHeartbeats 1000000 in
theorem RefOpen_any (w : World) (s : ByteArray) (hs : s.size ≤ 1000000) (size wrong : Nat) (hw : wrong ≠ 0) :
    Calls Tryz.prog 11 #[.string s, .int .i64 size, .int .i64 wrong] w fun e w' => e = .returned (.tuple #[.string (opR s size wrong), .int .i64 (opC s size wrong)]) ∧ Below w.heap.size w w' := by
  obtain ⟨r1, hr1⟩ : ∃ r, opW s = r := ⟨_, rfl⟩
  obtain ⟨s1, hs1⟩ : ∃ r, txtS s 0 s.size = r := ⟨_, rfl⟩
  obtain ⟨c1, hc1⟩ : ∃ r, txtC s 0 s.size = r := ⟨_, rfl⟩
  obtain ⟨r2, hr2⟩ : ∃ r, opX s = r := ⟨_, rfl⟩
  obtain ⟨s2, hs2⟩ : ∃ r, opS s = r := ⟨_, rfl⟩
  obtain ⟨c2, hc2⟩ : ∃ r, opE s = r := ⟨_, rfl⟩
  have hsz1 : s1.size ≤ 1000000 := by
    rw [← hs1]
    unfold txtS
    split
    · exact Nat.zero_le _
    · exact Nat.le_trans (rawS_size _ _ _) (Nat.le_trans (rawS_size _ _ _) hs)
  have hC : opC s size wrong = if endC s2 c2 ≠ 0 then endC s2 c2 else if r1 = algoB ∧ r2.size = size then 0 else wrong := by unfold opC; rw [hs2, hc2, hr1, hr2]
  have hR : opR s size wrong = if opC s size wrong = 0 then r2 else ⟨#[]⟩ := by unfold opR; rw [hr2]
  have HT1 := Lib.hid (show ∀ W, Calls Tryz.prog 22 #[.agg #[.string s, .int .i64 0], .int .i64 s.size] W fun e w' => e = .returned (.tuple #[.agg #[.string s1, .int .i64 c1], .string r1]) ∧ Below W.heap.size W w' from fun W => by
    have := RefText_read W s 0 s.size (by omega)
    rw [show txtR s 0 s.size = r1 from hr1, hs1, hc1] at this
    exact this)
  have HT2 := Lib.hid (show ∀ W, Calls Tryz.prog 22 #[.agg #[.string s1, .int .i64 c1], .int .i64 s.size] W fun e w' => e = .returned (.tuple #[.agg #[.string s2, .int .i64 c2], .string r2]) ∧ Below W.heap.size W w' from fun W => by
    have := RefText_read W s1 c1 s.size (by omega)
    rw [show txtR s1 c1 s.size = r2 by rw [← hr2, ← hs1, ← hc1]; rfl, show txtS s1 c1 s.size = s2 by rw [← hs2, ← hs1, ← hc1]; rfl, show txtC s1 c1 s.size = c2 by rw [← hc2, ← hs1, ← hc1]; rfl] at this
    exact this)
  rw [hC] at hR
  rw [hC, hR]
  clear hr1 hs1 hc1 hr2 hs2 hc2 hs hsz1 hC hR
  have fin : ∀ (cv : Nat) (x : ByteArray), (if endC s2 c2 ≠ 0 then endC s2 c2 else if r1 = algoB ∧ r2.size = size then 0 else wrong) = cv → (if cv = 0 then r2 else ⟨#[]⟩) = x →
    (Calls Tryz.prog 11 #[.string s, .int .i64 size, .int .i64 wrong] w fun e w' => e = .returned (.tuple #[.string x, .int .i64 cv]) ∧ Below w.heap.size w w') → Calls Tryz.prog 11 #[.string s, .int .i64 size, .int .i64 wrong] w fun e w' => e = .returned (.tuple #[.string (if (if endC s2 c2 ≠ 0 then endC s2 c2 else if r1 = algoB ∧ r2.size = size then 0 else wrong) = 0 then r2 else ⟨#[]⟩), .int .i64 ((if endC s2 c2 ≠ 0 then endC s2 c2 else if r1 = algoB ∧ r2.size = size then 0 else wrong : Nat) : Int)]) ∧ Below w.heap.size w w' := fun cv x h1 h2 h => by rw [h1, h2]; exact h
  by_cases h3 : c2 = 0
  · subst h3
    by_cases h4 : s2.size = 0
    · have e4 : endC s2 0 = 0 := by unfold endC; rw [if_neg (by simp [h4])]
      obtain rfl := empty_of_size h4
      rw [e4] at fin ⊢
      clear e4 h4
      by_cases hq : r1 = algoB ∧ r2.size = size
      · refine fin 0 r2 (by simp [hq]) (by simp) ?_
        obtain ⟨rfl, rfl⟩ := hq
        have k0 := algo_list
        clear fin hw
        go_enter Tryz.func11, Tryz.ntmps11
        have tok := True.intro
        go_wp2_with (first
          | (go_at_call 22; have _t := tok; refine (HT1.out _).mono ?_; rintro e w1 ⟨rfl, hb1⟩; skip; have HB1 := Lib.hid hb1; have tok2 := True.intro; clear hb1 _t tok)
          | (go_at_call 22; have _t := tok2; refine (HT2.out _).mono ?_; rintro e w3 ⟨rfl, hb3⟩; skip; have HB3 := Lib.hid (HBX.out.trans (hb3.mono HBX.out.size)); have tok3 := True.intro; clear hb3 _t tok2)
          | (have _t := tok2; refine Rg.store_fresh rfl 58 _ _ rfl #[.string s1, .int .i64 (c1 : Int)] _ 58 rfl rfl (by kernel_rfl) rfl (by simp [Value.oneCell']) ?_
             intro X hX hbX; have x0 := hX.cell 0 (v := .string s1) rfl; have x1 := hX.cell 1 (v := .int .i64 (c1 : Int)) rfl; have HBX := Lib.hid (HB1.out.trans (hbX.mono HB1.out.size)); clear hX hbX)
          | (have _t := tok3; refine Rg.store_fresh rfl 58 _ _ rfl #[.string ⟨#[]⟩, .int .i64 0] _ 58 rfl rfl (by kernel_rfl) rfl (by simp [Value.oneCell']) ?_
             intro Z hZ hbZ; have z0 := hZ.cell 0 (v := .string ⟨#[]⟩) rfl; have z1 := hZ.cell 1 (v := .int .i64 0) rfl; have HBZ := Lib.hid (HB3.out.trans (hbZ.mono HB3.out.size)); clear hZ hbZ _t tok3))
        go_ret2
        exact ⟨rfl, HBZ.out⟩
      · refine fin wrong ⟨#[]⟩ (by simp [hq]) (by simp [hw]) ?_
        clear fin hw
        by_cases h1 : r1 = algoB
        · subst h1
          have k0 := algo_list
          have h2 : ((r2.size : Int) == (size : Int)) = false := by
            rw [beq_eq_false_iff_ne]; intro e; exact hq ⟨rfl, by omega⟩
          have h2' : ¬ (r2.size : Int) = (size : Int) := by simpa using h2
          have h2n : ¬ r2.size = size := by omega
          clear hq
          go_enter Tryz.func11, Tryz.ntmps11
          have tok := True.intro
          go_wp2_with (first
            | (go_at_call 22; have _t := tok; refine (HT1.out _).mono ?_; rintro e w1 ⟨rfl, hb1⟩; skip; have HB1 := Lib.hid hb1; have tok2 := True.intro; clear hb1 _t tok)
            | (go_at_call 22; have _t := tok2; refine (HT2.out _).mono ?_; rintro e w3 ⟨rfl, hb3⟩; skip; have HB3 := Lib.hid (HBX.out.trans (hb3.mono HBX.out.size)); have tok3 := True.intro; clear hb3 _t tok2)
            | (have _t := tok2; refine Rg.store_fresh rfl 58 _ _ rfl #[.string s1, .int .i64 (c1 : Int)] _ 58 rfl rfl (by kernel_rfl) rfl (by simp [Value.oneCell']) ?_
               intro X hX hbX; have x0 := hX.cell 0 (v := .string s1) rfl; have x1 := hX.cell 1 (v := .int .i64 (c1 : Int)) rfl; have HBX := Lib.hid (HB1.out.trans (hbX.mono HB1.out.size)); clear hX hbX)
            | (have _t := tok3; refine Rg.store_fresh rfl 58 _ _ rfl #[.string ⟨#[]⟩, .int .i64 0] _ 58 rfl rfl (by kernel_rfl) rfl (by simp [Value.oneCell']) ?_
               intro Z hZ hbZ; have z0 := hZ.cell 0 (v := .string ⟨#[]⟩) rfl; have z1 := hZ.cell 1 (v := .int .i64 0) rfl; have HBZ := Lib.hid (HB3.out.trans (hbZ.mono HB3.out.size)); clear hZ hbZ _t tok3))
          go_ret2
          exact ⟨rfl, HBZ.out⟩
        · have h2 : (r1.toList == [115, 115, 104, 45, 101, 100, 50, 53, 53, 49, 57]) = false := by
            rw [beq_eq_false_iff_ne, ← algo_list, ByteArray.toList_eq, ByteArray.toList_eq]
            intro e
            exact h1 (by apply ByteArray.ext; apply Array.toList_inj.1; exact e)
          have h2' : ¬ r1.toList = [115, 115, 104, 45, 101, 100, 50, 53, 53, 49, 57] := by simpa using h2
          clear hq h1
          go_enter Tryz.func11, Tryz.ntmps11
          have tok := True.intro
          go_wp2_with (first
            | (go_at_call 22; have _t := tok; refine (HT1.out _).mono ?_; rintro e w1 ⟨rfl, hb1⟩; skip; have HB1 := Lib.hid hb1; have tok2 := True.intro; clear hb1 _t tok)
            | (go_at_call 22; have _t := tok2; refine (HT2.out _).mono ?_; rintro e w3 ⟨rfl, hb3⟩; skip; have HB3 := Lib.hid (HBX.out.trans (hb3.mono HBX.out.size)); have tok3 := True.intro; clear hb3 _t tok2)
            | (have _t := tok2; refine Rg.store_fresh rfl 58 _ _ rfl #[.string s1, .int .i64 (c1 : Int)] _ 58 rfl rfl (by kernel_rfl) rfl (by simp [Value.oneCell']) ?_
               intro X hX hbX; have x0 := hX.cell 0 (v := .string s1) rfl; have x1 := hX.cell 1 (v := .int .i64 (c1 : Int)) rfl; have HBX := Lib.hid (HB1.out.trans (hbX.mono HB1.out.size)); clear hX hbX)
            | (have _t := tok3; refine Rg.store_fresh rfl 58 _ _ rfl #[.string ⟨#[]⟩, .int .i64 0] _ 58 rfl rfl (by kernel_rfl) rfl (by simp [Value.oneCell']) ?_
               intro Z hZ hbZ; have z0 := hZ.cell 0 (v := .string ⟨#[]⟩) rfl; have z1 := hZ.cell 1 (v := .int .i64 0) rfl; have HBZ := Lib.hid (HB3.out.trans (hbZ.mono HB3.out.size)); clear hZ hbZ _t tok3))
          go_ret2
          exact ⟨rfl, HBZ.out⟩
    · have e4 : endC s2 0 = 3 := by unfold endC; rw [if_pos ⟨rfl, h4⟩]
      have h5 := toList_ne h4
      have h6 : ¬ s2.toList = [] := by intro e; rw [e] at h5; cases h5
      have h7 : (s2.toList == []) = false := by rw [beq_eq_false_iff_ne]; exact h6
      rw [e4] at fin ⊢
      refine fin 3 ⟨#[]⟩ (by simp) (by simp) ?_
      clear fin e4 hw h4
      go_enter Tryz.func11, Tryz.ntmps11
      have tok := True.intro
      go_wp2_with (first
        | (go_at_call 22; have _t := tok; refine (HT1.out _).mono ?_; rintro e w1 ⟨rfl, hb1⟩; skip; have HB1 := Lib.hid hb1; have tok2 := True.intro; clear hb1 _t tok)
        | (go_at_call 22; have _t := tok2; refine (HT2.out _).mono ?_; rintro e w3 ⟨rfl, hb3⟩; skip; have HB3 := Lib.hid (HBX.out.trans (hb3.mono HBX.out.size)); have tok3 := True.intro; clear hb3 _t tok2)
        | (have _t := tok2; refine Rg.store_fresh rfl 58 _ _ rfl #[.string s1, .int .i64 (c1 : Int)] _ 58 rfl rfl (by kernel_rfl) rfl (by simp [Value.oneCell']) ?_
           intro X hX hbX; have x0 := hX.cell 0 (v := .string s1) rfl; have x1 := hX.cell 1 (v := .int .i64 (c1 : Int)) rfl; have HBX := Lib.hid (HB1.out.trans (hbX.mono HB1.out.size)); clear hX hbX)
        | (have _t := tok3; refine Rg.store_fresh rfl 58 _ _ rfl #[.string s2, .int .i64 0] _ 58 rfl rfl (by kernel_rfl) rfl (by simp [Value.oneCell']) ?_
           intro Z hZ hbZ; have z0 := hZ.cell 0 (v := .string s2) rfl; have z1 := hZ.cell 1 (v := .int .i64 0) rfl; have HBZ := Lib.hid (HB3.out.trans (hbZ.mono HB3.out.size)); clear hZ hbZ _t tok3))
      go_ret2
      exact ⟨rfl, HBZ.out⟩
  · have e4 : endC s2 c2 = c2 := by unfold endC; rw [if_neg (by simp [h3])]
    rw [e4] at fin ⊢
    refine fin c2 ⟨#[]⟩ (by simp [h3]) (by simp [h3]) ?_
    have h5 : ((c2 : Int) == 0) = false := by rw [beq_eq_false_iff_ne]; omega
    have h6 : ¬ (c2 : Int) = 0 := by omega
    clear fin e4 hw
    go_enter Tryz.func11, Tryz.ntmps11
    have tok := True.intro
    go_wp2_with (first
      | (go_at_call 22; have _t := tok; refine (HT1.out _).mono ?_; rintro e w1 ⟨rfl, hb1⟩; skip; have HB1 := Lib.hid hb1; have tok2 := True.intro; clear hb1 _t tok)
      | (go_at_call 22; have _t := tok2; refine (HT2.out _).mono ?_; rintro e w3 ⟨rfl, hb3⟩; skip; have HB3 := Lib.hid (HBX.out.trans (hb3.mono HBX.out.size)); have tok3 := True.intro; clear hb3 _t tok2)
      | (have _t := tok2; refine Rg.store_fresh rfl 58 _ _ rfl #[.string s1, .int .i64 (c1 : Int)] _ 58 rfl rfl (by kernel_rfl) rfl (by simp [Value.oneCell']) ?_
         intro X hX hbX; have x0 := hX.cell 0 (v := .string s1) rfl; have x1 := hX.cell 1 (v := .int .i64 (c1 : Int)) rfl; have HBX := Lib.hid (HB1.out.trans (hbX.mono HB1.out.size)); clear hX hbX)
      | (have _t := tok3; refine Rg.store_fresh rfl 58 _ _ rfl #[.string s2, .int .i64 (c2 : Int)] _ 58 rfl rfl (by kernel_rfl) rfl (by simp [Value.oneCell']) ?_
         intro Z hZ hbZ; have z0 := hZ.cell 0 (v := .string s2) rfl; have z1 := hZ.cell 1 (v := .int .i64 (c2 : Int)) rfl; have HBZ := Lib.hid (HB3.out.trans (hbZ.mono HB3.out.size)); clear hZ hbZ _t tok3))
    go_quiet (fail)
    go_wp2
    go_ret2
    exact ⟨rfl, below_drewN HBZ.out _⟩
end Go.Proofs.YtjfikbnfabdkoaaGreatDoor.Bl
