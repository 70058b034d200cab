/- The reference's Sum256 and Sum512. -/
import Derived.Test.YtfaeigbfnjkojaaGreatDoorRefS
set_option linter.unusedVariables false
set_option linter.unusedSimpArgs false
namespace Go.Proofs.YtfaeigbfnjkojaaGreatDoor.Sha
open Go.RowKit Go.Proofs.YtfaeigbfnjkojaaGreatDoor.Cl Go.Proofs.YtfaeigbfnjkojaaGreatDoor.Cv
@[irreducible] def shaS (W : Nat) (s : ByteArray) : ByteArray := ⟨(sha W s.data.toList).toArray⟩
theorem shaS_eq (W : Nat) (s : ByteArray) : (⟨(sha W s.data.toList).toArray⟩ : ByteArray) = shaS W s := by unfold shaS; rfl
theorem RefSum256_any (w : World) (s : ByteArray) (hs : s.size ≤ 1000000) : Calls Tryz.prog 33 #[.string s] w fun e w' => e = .returned (.string (shaS 32 s)) ∧ Below w.heap.size w w' := by
  go_enter Tryz.func33, Tryz.ntmps33
  go_wp2_with (go_at_call 56; refine (refsum32 _ _ hs).mono ?_; rintro e w1 ⟨rfl, hb1⟩; skip; have HB1 := Lib.hid hb1; clear hb1)
  go_ret
  exact ⟨by rw [← shaS_eq]; rfl, HB1.out⟩
end Go.Proofs.YtfaeigbfnjkojaaGreatDoor.Sha
