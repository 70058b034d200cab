/- Regions whose order is drawn: a call that writes, carried out in whatever later world. -/
import Derived.Test.YtfaeigbfnjkojaaGreatDoorGenA
set_option linter.unusedVariables false
set_option linter.unusedSimpArgs false
namespace Go.Proofs.YtfaeigbfnjkojaaGreatDoor.RL
open Go.RowKit
theorem stepCall {P : Program} {md : Region.Mode} {ops : Array Oper} {Q : Exit → Act → World → Prop} {S : World → Prop} {i : Nat} {o : Oper} {fuel : Nat} {listed : Array Bool} {a : Act} {w : World} (F : FuncId) (args : Array Value) (ho : ops.toList[i]? = some o) (hr : Region.ready md ops listed = [i]) (hw : Region.wanted o (yielded ops a.tmps) = true)
    (hv : ∀ W : World, (execOp a.eval o).run P W = .ok (.enter F args) W)
    (hc : ∀ w', Lat w w' → S w' → Calls P F args w' fun e w'' => ∃ v, e = .returned v ∧ S w'' ∧ H P md ops Q S w'' fuel (listed.setIfInBounds i true) (a.put o.dst v)) : H P md ops Q S w (fuel + 1) listed a := by
  refine step hr fun w' hl hS => wpOp_step (by simpa using ho) fun K hK => ?_
  rw [if_pos hw]
  unfold Oper.wp
  rw [hv]
  refine Calls.mono (hc w' hl hS) ?_
  rintro e w'' ⟨v, rfl, hs, hh⟩
  exact hK _ _ ⟨hs, hh⟩
/-- two that may come up, whichever first -/
theorem step2 {P : Program} {md : Region.Mode} {ops : Array Oper} {Q : Exit → Act → World → Prop} {S : World → Prop} {i j : Nat} {oi oj : Oper} {fuel : Nat} {listed : Array Bool} {a : Act} {w : World} (hoi : ops.toList[i]? = some oi) (hoj : ops.toList[j]? = some oj) (hr : Region.ready md ops listed = [i, j]) (hwi : Region.wanted oi (yielded ops a.tmps) = true) (hwj : Region.wanted oj (yielded ops a.tmps) = true)
    (hi : ∀ w', Lat w w' → S w' → ∀ K : Act → World → Prop, Shut (∀ a' w'', S w'' → H P md ops Q S w'' fuel (listed.setIfInBounds i true) a' → K a' w'') → Oper.wp P oi a w' K Q)
    (hj : ∀ w', Lat w w' → S w' → ∀ K : Act → World → Prop, Shut (∀ a' w'', S w'' → H P md ops Q S w'' fuel (listed.setIfInBounds j true) a' → K a' w'') → Oper.wp P oj a w' K Q) : H P md ops Q S w (fuel + 1) listed a := by
  intro w' hl hS
  refine ⟨fun h0 => ?_, fun k hk => ?_⟩
  · rw [h0] at hr
    cases hr
  · rw [hr] at hk
    rcases List.mem_cons.1 hk with rfl | hk
    · exact wpOp_step (by simpa using hoi) fun K hK => by
        rw [if_pos hwi]
        exact hi w' hl hS K (fun a' w'' hs hh => hK a' w'' ⟨hs, hh⟩)
    · rw [List.mem_singleton.1 hk]
      exact wpOp_step (by simpa using hoj) fun K hK => by
        rw [if_pos hwj]
        exact hj w' hl hS K (fun a' w'' hs hh => hK a' w'' ⟨hs, hh⟩)
end Go.Proofs.YtfaeigbfnjkojaaGreatDoor.RL
