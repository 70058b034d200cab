/- Sum256 and Sum512. -/
import Derived.Test.YtfaeigbfnjkojaaGreatDoorShaSum
import Derived.Test.YtfaeigbfnjkojaaGreatDoorGenA
set_option linter.unusedVariables false
set_option linter.unusedSimpArgs false
namespace Go.Proofs.YtfaeigbfnjkojaaGreatDoor.Sha
open Go.RowKit Go.Proofs.YtfaeigbfnjkojaaGreatDoor.Cl Go.Proofs.YtfaeigbfnjkojaaGreatDoor.Cv
set_option maxRecDepth 20000 in
set_option maxHeartbeats 1000000 in
theorem Sum256_any (w : World) (v : Value) (xs : List ByteArray) (hT : Tables w) (hP : Jo.Parts w v xs) (hs : (Jo.joined xs).size ≤ 1000000) (hN : xs.length ≤ 1000000) :
    Calls Tryz.prog 32 #[v] w fun e w' => e = .returned (.agg (bytesV (sha 32 (Jo.joined xs).data.toList))) ∧ Below w.heap.size w w' := by
  have HT := Lib.hid hT
  have HP := Lib.hid hP
  have Hs := Lib.hid hs
  have HL := Lib.hid (sha_length 32 (by decide) (Jo.joined xs).data.toList)
  have HZ := Lib.hid (show (bytesV (sha 32 (Jo.joined xs).data.toList)).size = 32 by rw [bytesV_size, HL.out])
  clear hT hP hs
  go_enter Tryz.func32, Tryz.ntmps32
  go_wp2_with fail
  generalize hX : World.alloc w _ = X
  have HBX := Lib.hid (show Below w.heap.size w X by subst hX; exact (Below.refl _ _).alloc (Nat.le_refl _) _)
  have HR := Lib.hid (show ∃ cs : Array Value, cs.size = 32 ∧ Rg.Blk X w.heap.size 22 cs by subst hX; exact ⟨_, rfl, Rg.Blk.new _ _ _⟩)
  have hXs : w.heap.size < X.heap.size := by obtain ⟨cs, _, h⟩ := HR.out; exact h.lt
  clear hX
  go_wp2_with (first
    | (go_at_call 54; refine (kind256_any _).mono ?_; rintro e w1 ⟨rfl, hb1⟩; skip; have HB1 := Lib.hid hb1; clear hb1)
    | (go_at_call 55; refine (sum256 _ _ xs ((HT.out.below HBX.out HT.out.size).below HB1.out (by have := HT.out.size; omega)) ((HP.out.below HBX.out).below (HB1.out.mono (Nat.le_refl _) |>.mono (Nat.le_refl _))) Hs.out hN).mono ?_; rintro e w2 ⟨rfl, hb2⟩; skip; have HB2 := Lib.hid hb2; clear hb2
       have HSL := Lib.hid (show (⟨(sha 32 (Jo.joined xs).data.toList).toArray⟩ : ByteArray).data.toList = sha 32 (Jo.joined xs).data.toList from rfl)
       have hsz : (⟨(sha 32 (Jo.joined xs).data.toList).toArray⟩ : ByteArray).size = 32 := by show (sha 32 _).toArray.size = 32; rw [List.size_toArray, HL.out]
       generalize (⟨(sha 32 (Jo.joined xs).data.toList).toArray⟩ : ByteArray) = sb at *
       have HSZ := Lib.hid hsz
       clear hsz)
    | (refine conv_bytes rfl 9 36 5 _ rfl rfl Tryz.underlying9 Tryz.underlying36 Tryz.underlying5 ?_; intro Y cap hY hfY hbY hnY hcY; have HY := Lib.hid hY; have HBY := Lib.hid hbY; clear hY hfY hbY hnY hcY)
    | (refine slice_to_array rfl 22 5 32 _ rfl _ _ _ _ rfl Tryz.underlying22 (by rw [HSZ.out]; decide) ?_)
    | (refine load_cells rfl 22 _ rfl _ 0 rfl (bytesV (sha 32 (Jo.joined xs).data.toList)) _ (HSL.out ▸ HY.out).cells Tryz.underlying22 rfl (by rw [HZ.out]; rfl) ?_)
    | (obtain ⟨cs, hcs, hB⟩ := HR.out
       refine store_blk rfl 22 _ _ rfl w.heap.size _ cs 22 rfl rfl (((hB.below HB1.out hXs).below HB2.out (by have := HB1.out.size; omega)).below HBY.out (by have := HB1.out.size; have := HB2.out.size; omega)) (by rw [HZ.out]; rfl) (by rw [hcs, HZ.out]) (bytesV_one _) ?_
       intro Z hZ hgZ; have HZZ := Lib.hid hZ; have HGZ := Lib.hid hgZ; clear hZ hgZ hcs hB))
  exact bodyPost_ret (v := .agg (bytesV (sha 32 (Jo.joined xs).data.toList)))
    (results_cell_row Tryz.results32 _ _ w.heap.size 22 _ (0, 0) _ rfl HZZ.out Tryz.underlying22 rfl (by rw [HZ.out]; rfl)) rfl
    ⟨rfl, (((HBX.out.trans (HB1.out.mono (by omega))).trans (HB2.out.mono (by have := HB1.out.size; omega))).trans (HBY.out.mono (by have := HB1.out.size; have := HB2.out.size; omega))).grown HGZ.out (by have := HB1.out.size; have := HB2.out.size; have := HBY.out.size; omega) (fun k hk => by cases hk; exact Nat.le_refl _)⟩

end Go.Proofs.YtfaeigbfnjkojaaGreatDoor.Sha
