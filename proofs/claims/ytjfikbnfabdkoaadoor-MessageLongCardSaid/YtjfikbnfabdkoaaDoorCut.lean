/- The laws' Cut: a text's first bytes. -/
import Derived.Test.YtjfikbnfabdkoaaDoorWireBig
import Derived.Test.YtjfikbnfabdkoaaDoorWireOut2
set_option linter.unusedVariables false
set_option linter.unusedSimpArgs false
namespace Go.Proofs.YtjfikbnfabdkoaaDoor.Wi
open Go.RowKit Go.Proofs.YtjfikbnfabdkoaaDoor.Ow Go.Proofs.YtjfikbnfabdkoaaDoor.Be
theorem Cut_any (w : World) (s : ByteArray) (n : Nat) (hn : n ≤ 1000000) : Calls Tryd.prog 33 #[.string s, .int .i64 n] w fun e w' => e = .returned (.string (s.extract 0 n)) ∧ w = w' := by
  by_cases h : n < s.size
  · go_enter Tryd.func33, Tryd.ntmps33
    go_wp2
    go_ret
    exact ⟨by simp, rfl⟩
  · have e : s.extract 0 n = s := by
      apply ByteArray.ext
      simp
      omega
    have h' : ¬ (n : Int) < s.size := by omega
    go_enter Tryd.func33, Tryd.ntmps33
    go_wp2
    go_ret
    exact ⟨rfl, rfl⟩
end Go.Proofs.YtjfikbnfabdkoaaDoor.Wi
