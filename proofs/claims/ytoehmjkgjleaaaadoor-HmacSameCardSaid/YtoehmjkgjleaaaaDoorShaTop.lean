/- Sum256 and Sum512. -/
import Derived.Test.YtoehmjkgjleaaaaDoorShaSum
import Derived.Test.YtoehmjkgjleaaaaDoorConv
set_option linter.unusedVariables false
set_option linter.unusedSimpArgs false
namespace Go.Proofs.YtoehmjkgjleaaaaDoor.Sha
open Go.RowKit Go.Proofs.YtoehmjkgjleaaaaDoor.Cl Go.Proofs.YtoehmjkgjleaaaaDoor.Cv
theorem kind512_any (w : World) : Calls Tryd.prog 26 #[] w fun e w' => e = .returned K512 ∧ Below w.heap.size w w' := by
  unfold K512 k512c
  go_enter Tryd.func26, Tryd.ntmps26
  go_wp2
  exact bodyPost_ret (v := K512) (by simp [results, Tryd.results26, go_sem, K512, k512c]) rfl ⟨rfl, (Below.refl _ _).alloc (Nat.le_refl _) _⟩

set_option maxRecDepth 20000 in
set_option maxHeartbeats 1000000 in
theorem Sum256_any (w : World) (v : Value) (xs : List ByteArray) (hT : Tables w) (hP : Jo.Parts w v xs) (hs : (Jo.joined xs).size ≤ 1000000) (hN : xs.length ≤ 1000000) :
    Calls Tryd.prog 12 #[v] w fun e w' => e = .returned (.agg (bytesV (sha 32 (Jo.joined xs).data.toList))) ∧ Below w.heap.size w w' := by
  have HT := Lib.hid hT
  have HP := Lib.hid hP
  have Hs := Lib.hid hs
  have HL := Lib.hid (sha_length 32 (by decide) (Jo.joined xs).data.toList)
  have HZ := Lib.hid (show (bytesV (sha 32 (Jo.joined xs).data.toList)).size = 32 by rw [bytesV_size, HL.out])
  clear hT hP hs
  go_enter Tryd.func12, Tryd.ntmps12
  go_wp2_with fail
  generalize hX : World.alloc w _ = X
  have HBX := Lib.hid (show Below w.heap.size w X by subst hX; exact (Below.refl _ _).alloc (Nat.le_refl _) _)
  have HR := Lib.hid (show ∃ cs : Array Value, cs.size = 32 ∧ Rg.Blk X w.heap.size 24 cs by subst hX; exact ⟨_, rfl, Rg.Blk.new _ _ _⟩)
  have hXs : w.heap.size < X.heap.size := by obtain ⟨cs, _, h⟩ := HR.out; exact h.lt
  clear hX
  go_wp2_with (first
    | (go_at_call 24; refine (kind256_any _).mono ?_; rintro e w1 ⟨rfl, hb1⟩; skip; have HB1 := Lib.hid hb1; clear hb1)
    | (go_at_call 25; refine (sum256 _ _ xs ((HT.out.below HBX.out HT.out.size).below HB1.out (by have := HT.out.size; omega)) ((HP.out.below HBX.out).below (HB1.out.mono (Nat.le_refl _) |>.mono (Nat.le_refl _))) Hs.out hN).mono ?_; rintro e w2 ⟨rfl, hb2⟩; skip; have HB2 := Lib.hid hb2; clear hb2
       have HSL := Lib.hid (show (⟨(sha 32 (Jo.joined xs).data.toList).toArray⟩ : ByteArray).data.toList = sha 32 (Jo.joined xs).data.toList from rfl)
       have hsz : (⟨(sha 32 (Jo.joined xs).data.toList).toArray⟩ : ByteArray).size = 32 := by show (sha 32 _).toArray.size = 32; rw [List.size_toArray, HL.out]
       generalize (⟨(sha 32 (Jo.joined xs).data.toList).toArray⟩ : ByteArray) = sb at *
       have HSZ := Lib.hid hsz
       clear hsz)
    | (refine conv_bytes rfl 9 28 5 _ rfl rfl Tryd.underlying9 Tryd.underlying28 Tryd.underlying5 ?_; intro Y cap hY hfY hbY hnY hcY; have HY := Lib.hid hY; have HBY := Lib.hid hbY; clear hY hfY hbY hnY hcY)
    | (refine slice_to_array rfl 24 5 32 _ rfl _ _ _ _ rfl Tryd.underlying24 (by rw [HSZ.out]; decide) ?_)
    | (refine load_cells rfl 24 _ rfl _ 0 rfl (bytesV (sha 32 (Jo.joined xs).data.toList)) _ (HSL.out ▸ HY.out).cells Tryd.underlying24 rfl (by rw [HZ.out]; rfl) ?_)
    | (obtain ⟨cs, hcs, hB⟩ := HR.out
       refine store_blk rfl 24 _ _ rfl w.heap.size _ cs 24 rfl rfl (((hB.below HB1.out hXs).below HB2.out (by have := HB1.out.size; omega)).below HBY.out (by have := HB1.out.size; have := HB2.out.size; omega)) (by rw [HZ.out]; rfl) (by rw [hcs, HZ.out]) (bytesV_one _) ?_
       intro Z hZ hgZ; have HZZ := Lib.hid hZ; have HGZ := Lib.hid hgZ; clear hZ hgZ hcs hB))
  exact bodyPost_ret (v := .agg (bytesV (sha 32 (Jo.joined xs).data.toList)))
    (results_cell_row Tryd.results12 _ _ w.heap.size 24 _ (0, 0) _ rfl HZZ.out Tryd.underlying24 rfl (by rw [HZ.out]; rfl)) rfl
    ⟨rfl, (((HBX.out.trans (HB1.out.mono (by omega))).trans (HB2.out.mono (by have := HB1.out.size; omega))).trans (HBY.out.mono (by have := HB1.out.size; have := HB2.out.size; omega))).grown HGZ.out (by have := HB1.out.size; have := HB2.out.size; have := HBY.out.size; omega) (fun k hk => by cases hk; exact Nat.le_refl _)⟩

set_option maxRecDepth 20000 in
set_option maxHeartbeats 1000000 in
theorem Sum512_any (w : World) (v : Value) (xs : List ByteArray) (hT : Tables w) (hP : Jo.Parts w v xs) (hs : (Jo.joined xs).size ≤ 1000000) (hN : xs.length ≤ 1000000) :
    Calls Tryd.prog 13 #[v] w fun e w' => e = .returned (.agg (bytesV (sha 64 (Jo.joined xs).data.toList))) ∧ Below w.heap.size w w' := by
  have HT := Lib.hid hT
  have HP := Lib.hid hP
  have Hs := Lib.hid hs
  have HL := Lib.hid (sha_length 64 (by decide) (Jo.joined xs).data.toList)
  have HZ := Lib.hid (show (bytesV (sha 64 (Jo.joined xs).data.toList)).size = 64 by rw [bytesV_size, HL.out])
  clear hT hP hs
  go_enter Tryd.func13, Tryd.ntmps13
  go_wp2_with fail
  generalize hX : World.alloc w _ = X
  have HBX := Lib.hid (show Below w.heap.size w X by subst hX; exact (Below.refl _ _).alloc (Nat.le_refl _) _)
  have HR := Lib.hid (show ∃ cs : Array Value, cs.size = 64 ∧ Rg.Blk X w.heap.size 26 cs by subst hX; exact ⟨_, rfl, Rg.Blk.new _ _ _⟩)
  have hXs : w.heap.size < X.heap.size := by obtain ⟨cs, _, h⟩ := HR.out; exact h.lt
  clear hX
  go_wp2_with (first
    | (go_at_call 26; refine (kind512_any _).mono ?_; rintro e w1 ⟨rfl, hb1⟩; skip; have HB1 := Lib.hid hb1; clear hb1)
    | (go_at_call 25; refine (sum512 _ _ xs ((HT.out.below HBX.out HT.out.size).below HB1.out (by have := HT.out.size; omega)) ((HP.out.below HBX.out).below (HB1.out.mono (Nat.le_refl _) |>.mono (Nat.le_refl _))) Hs.out hN).mono ?_; rintro e w2 ⟨rfl, hb2⟩; skip; have HB2 := Lib.hid hb2; clear hb2
       have HSL := Lib.hid (show (⟨(sha 64 (Jo.joined xs).data.toList).toArray⟩ : ByteArray).data.toList = sha 64 (Jo.joined xs).data.toList from rfl)
       have hsz : (⟨(sha 64 (Jo.joined xs).data.toList).toArray⟩ : ByteArray).size = 64 := by show (sha 64 _).toArray.size = 64; rw [List.size_toArray, HL.out]
       generalize (⟨(sha 64 (Jo.joined xs).data.toList).toArray⟩ : ByteArray) = sb at *
       have HSZ := Lib.hid hsz
       clear hsz)
    | (refine conv_bytes rfl 9 28 5 _ rfl rfl Tryd.underlying9 Tryd.underlying28 Tryd.underlying5 ?_; intro Y cap hY hfY hbY hnY hcY; have HY := Lib.hid hY; have HBY := Lib.hid hbY; clear hY hfY hbY hnY hcY)
    | (refine slice_to_array rfl 26 5 64 _ rfl _ _ _ _ rfl Tryd.underlying26 (by rw [HSZ.out]; decide) ?_)
    | (refine load_cells rfl 26 _ rfl _ 0 rfl (bytesV (sha 64 (Jo.joined xs).data.toList)) _ (HSL.out ▸ HY.out).cells Tryd.underlying26 rfl (by rw [HZ.out]; rfl) ?_)
    | (obtain ⟨cs, hcs, hB⟩ := HR.out
       refine store_blk rfl 26 _ _ rfl w.heap.size _ cs 26 rfl rfl (((hB.below HB1.out hXs).below HB2.out (by have := HB1.out.size; omega)).below HBY.out (by have := HB1.out.size; have := HB2.out.size; omega)) (by rw [HZ.out]; rfl) (by rw [hcs, HZ.out]) (bytesV_one _) ?_
       intro Z hZ hgZ; have HZZ := Lib.hid hZ; have HGZ := Lib.hid hgZ; clear hZ hgZ hcs hB))
  exact bodyPost_ret (v := .agg (bytesV (sha 64 (Jo.joined xs).data.toList)))
    (results_cell_row Tryd.results13 _ _ w.heap.size 26 _ (0, 0) _ rfl HZZ.out Tryd.underlying26 rfl (by rw [HZ.out]; rfl)) rfl
    ⟨rfl, (((HBX.out.trans (HB1.out.mono (by omega))).trans (HB2.out.mono (by have := HB1.out.size; omega))).trans (HBY.out.mono (by have := HB1.out.size; have := HB2.out.size; omega))).grown HGZ.out (by have := HB1.out.size; have := HB2.out.size; have := HBY.out.size; omega) (fun k hk => by cases hk; exact Nat.le_refl _)⟩
end Go.Proofs.YtoehmjkgjleaaaaDoor.Sha
