/- The law WireNames: the walk. -/
import Derived.Test.YtkpecnkflibmjaaDoorWireAwake
set_option linter.unusedVariables false
set_option linter.unusedSimpArgs false
namespace Go.Proofs.YtkpecnkflibmjaaDoor.Wi
open Go.RowKit Go.Proofs.YtkpecnkflibmjaaDoor.Ow Go.Proofs.YtkpecnkflibmjaaDoor.Be
set_option maxHeartbeats 400000 in
theorem law_WireNames (w : World) (s : ByteArray) (E : Nat → Value) (hE : Errs w E) : Calls Tryd.prog 3 #[.string s] w fun e w' => e = .returned (.bool true) ∧ Below w.heap.size w w' := by
  have HE := Lib.hid hE
  clear hE
  have hsz : (s.extract 0 100).size ≤ 9223372036854775807 := by rw [ByteArray.size_extract]; omega
  have Hsz := Lib.hid hsz
  clear hsz
  go_enter Tryd.func3, Tryd.ntmps3
  go_wp2_with (first
    | (go_at_call 7; refine (awake_any _ E HE.out).mono ?_; rintro e w1 ⟨rfl, hb1⟩; skip; have HB1 := Lib.hid hb1; clear hb1)
    | (go_at_call 8; refine (Cut_any _ s 100 (by decide)).mono ?_; rintro e w2 ⟨rfl, rfl⟩; skip; generalize s.extract 0 100 = t at *)
    | (go_at_call 9; refine (Name_any _ t Hsz.out).mono ?_; rintro e w3 ⟨rfl, rfl⟩; skip)
    | (go_at_call 10; refine (RefName_any _ t Hsz.out).mono ?_; rintro e w4 ⟨rfl, rfl⟩; skip))
  go_ret
  exact ⟨by simp, HB1.out⟩
end Go.Proofs.YtkpecnkflibmjaaDoor.Wi
