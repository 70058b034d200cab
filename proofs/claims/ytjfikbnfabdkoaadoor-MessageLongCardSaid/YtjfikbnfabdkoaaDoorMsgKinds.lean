/- message.Fields and Name. -/
import Derived.Test.YtjfikbnfabdkoaaDoorMsgFind
set_option linter.unusedVariables false
set_option linter.unusedSimpArgs false
namespace Go.Proofs.YtjfikbnfabdkoaaDoor.Mg
open Go.RowKit Go.Proofs.YtjfikbnfabdkoaaDoor.Wi Go.Proofs.YtjfikbnfabdkoaaDoor.Ow Go.Proofs.YtjfikbnfabdkoaaDoor.Be
theorem rowZ_eq (k : Int) : ∃ kd : Int, rowZ k = #[.int .i64 kd, .string (mkS (nam k)), .string (mkS (ltr k))] := by
  unfold rowZ nam ltr
  cases h : rowOf k with
  | none => exact ⟨0, rfl⟩
  | some r => exact ⟨r.1, rfl⟩
theorem Fields_any (w : World) (k : Int) (hT : TabR w) :
    Calls Tryd.prog 19 #[.int .i64 k] w fun e w' => e = .returned (.tuple #[.string (mkS (ltr k)), .bool (isK k)]) ∧ Below w.heap.size w w' := by
  obtain ⟨kd, hz⟩ := rowZ_eq k
  have HF := Lib.hid (find_any w k hT)
  rw [hz] at HF
  clear hz hT
  generalize mkS (ltr k) = lt at *
  generalize mkS (nam k) = nm at *
  generalize isK k = is at *
  go_enter Tryd.func19, Tryd.ntmps19
  go_wp2_with (go_at_call 39; refine HF.out.mono ?_; rintro e w1 ⟨rfl, hb1⟩; skip; have HB1 := Lib.hid hb1; clear hb1)
  go_ret2
  exact ⟨rfl, HB1.out.alloc HB1.out.size _⟩
theorem Name_of (w : World) (k : Int) (hT : TabR w) :
    Calls Tryd.prog 21 #[.int .i64 k] w fun e w' => e = .returned (.string (mkS (nam k))) ∧ Below w.heap.size w w' := by
  obtain ⟨kd, hz⟩ := rowZ_eq k
  have HF := Lib.hid (find_any w k hT)
  rw [hz] at HF
  clear hz hT
  generalize mkS (ltr k) = lt at *
  generalize mkS (nam k) = nm at *
  generalize isK k = is at *
  go_enter Tryd.func21, Tryd.ntmps21
  go_wp2_with (go_at_call 39; refine HF.out.mono ?_; rintro e w1 ⟨rfl, hb1⟩; skip; have HB1 := Lib.hid hb1; clear hb1)
  go_ret
  exact ⟨rfl, HB1.out.alloc HB1.out.size _⟩
end Go.Proofs.YtjfikbnfabdkoaaDoor.Mg
