/- The reference's Fields. -/
import Derived.Test.YtjfikbnfabdkoaaDoorMsgKinds
set_option linter.unusedVariables false
set_option linter.unusedSimpArgs false
namespace Go.Proofs.YtjfikbnfabdkoaaDoor.Mg
open Go.RowKit Go.Proofs.YtjfikbnfabdkoaaDoor.Wi Go.Proofs.YtjfikbnfabdkoaaDoor.Ow Go.Proofs.YtjfikbnfabdkoaaDoor.Be
theorem rowOf_none (k : Int) (h : ∀ r ∈ rowsL, (r.1 : Int) ≠ k) : rowOf k = none := by
  unfold rowOf
  rw [List.find?_eq_none]
  intro r hr
  simpa using h r hr
set_option maxRecDepth 20000 in
set_option maxHeartbeats 4000000 in
theorem RefFields_any (w : World) (k : Int) :
    Calls Tryd.prog 20 #[.int .i64 k] w fun e w' => e = .returned (.tuple #[.string (mkS (ltr k)), .bool (isK k)]) ∧ w = w' := by
  go_enter Tryd.func20, Tryd.ntmps20
  go_wp2
  · have hk : k = 1 := by simp_all
    subst hk
    go_ret2
    exact ⟨rfl, rfl⟩
  · have hk : k = 2 := by simp_all
    subst hk
    go_ret2
    exact ⟨rfl, rfl⟩
  · have hk : k = 3 := by simp_all
    subst hk
    go_ret2
    exact ⟨rfl, rfl⟩
  · have hk : k = 4 := by simp_all
    subst hk
    go_ret2
    exact ⟨rfl, rfl⟩
  · have hk : k = 5 := by simp_all
    subst hk
    go_ret2
    exact ⟨rfl, rfl⟩
  · have hk : k = 6 := by simp_all
    subst hk
    go_ret2
    exact ⟨rfl, rfl⟩
  · have hk : k = 20 := by simp_all
    subst hk
    go_ret2
    exact ⟨rfl, rfl⟩
  · have hk : k = 21 := by simp_all
    subst hk
    go_ret2
    exact ⟨rfl, rfl⟩
  · have hk : k = 30 := by simp_all
    subst hk
    go_ret2
    exact ⟨rfl, rfl⟩
  · have hk : k = 31 := by simp_all
    subst hk
    go_ret2
    exact ⟨rfl, rfl⟩
  · have hk : k = 50 := by simp_all
    subst hk
    go_ret2
    exact ⟨rfl, rfl⟩
  · have hk : k = 51 := by simp_all
    subst hk
    go_ret2
    exact ⟨rfl, rfl⟩
  · have hk : k = 52 := by simp_all
    subst hk
    go_ret2
    exact ⟨rfl, rfl⟩
  · have hk : k = 53 := by simp_all
    subst hk
    go_ret2
    exact ⟨rfl, rfl⟩
  · have hk : k = 60 := by simp_all
    subst hk
    go_ret2
    exact ⟨rfl, rfl⟩
  · have hk : k = 80 := by simp_all
    subst hk
    go_ret2
    exact ⟨rfl, rfl⟩
  · have hk : k = 81 := by simp_all
    subst hk
    go_ret2
    exact ⟨rfl, rfl⟩
  · have hk : k = 82 := by simp_all
    subst hk
    go_ret2
    exact ⟨rfl, rfl⟩
  · have hk : k = 90 := by simp_all
    subst hk
    go_ret2
    exact ⟨rfl, rfl⟩
  · have hk : k = 91 := by simp_all
    subst hk
    go_ret2
    exact ⟨rfl, rfl⟩
  · have hk : k = 92 := by simp_all
    subst hk
    go_ret2
    exact ⟨rfl, rfl⟩
  · have hk : k = 93 := by simp_all
    subst hk
    go_ret2
    exact ⟨rfl, rfl⟩
  · have hk : k = 94 := by simp_all
    subst hk
    go_ret2
    exact ⟨rfl, rfl⟩
  · have hk : k = 95 := by simp_all
    subst hk
    go_ret2
    exact ⟨rfl, rfl⟩
  · have hk : k = 96 := by simp_all
    subst hk
    go_ret2
    exact ⟨rfl, rfl⟩
  · have hk : k = 97 := by simp_all
    subst hk
    go_ret2
    exact ⟨rfl, rfl⟩
  · have hk : k = 98 := by simp_all
    subst hk
    go_ret2
    exact ⟨rfl, rfl⟩
  · have hk : k = 99 := by simp_all
    subst hk
    go_ret2
    exact ⟨rfl, rfl⟩
  · have hk : k = 100 := by simp_all
    subst hk
    go_ret2
    exact ⟨rfl, rfl⟩
  · have hn : rowOf k = none := rowOf_none k (fun r hr => by
      simp only [rowsL, List.mem_cons, List.not_mem_nil, or_false] at hr
      rcases hr with rfl | rfl | rfl | rfl | rfl | rfl | rfl | rfl | rfl | rfl | rfl | rfl | rfl | rfl | rfl | rfl | rfl | rfl | rfl | rfl | rfl | rfl | rfl | rfl | rfl | rfl | rfl | rfl | rfl <;> (intro e; simp at e; simp_all))
    go_ret2
    exact ⟨by unfold ltr isK; rw [hn]; rfl, rfl⟩
end Go.Proofs.YtjfikbnfabdkoaaDoor.Mg
