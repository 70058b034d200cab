/- Regions whose order is drawn: a call that writes, carried out in whatever later world. -/
import Derived.Test.YtfaeigbfnjkojaaGreatDoorGenA
set_option linter.unusedVariables false
set_option linter.unusedSimpArgs false
namespace Go.Proofs.YtfaeigbfnjkojaaGreatDoor.RL
open Go.RowKit
theorem stepCall {P : Program} {md : Region.Mode} {ops : Array Oper} {Q : Exit → Act → World → Prop} {S : World → Prop} {i : Nat} {o : Oper} {fuel : Nat} {listed : Array Bool} {a : Act} {w : World} (F : FuncId) (args : Array Value) (ho : ops.toList[i]? = some o) (hr : Region.ready md ops listed = [i]) (hw : Region.wanted o (yielded ops a.tmps) = true)
    (hv : ∀ W : World, (execOp a.eval o).run P W = .ok (.enter F args) W)
    (hc : ∀ w', Lat w w' → S w' → Calls P F args w' fun e w'' => ∃ v, e = .returned v ∧ S w'' ∧ H P md ops Q S w'' fuel (listed.setIfInBounds i true) (a.put o.dst v)) : H P md ops Q S w (fuel + 1) listed a := by
  refine step hr fun w' hl hS => wpOp_step (by simpa using ho) fun K hK => ?_
  rw [if_pos hw]
  unfold Oper.wp
  rw [hv]
  refine Calls.mono (hc w' hl hS) ?_
  rintro e w'' ⟨v, rfl, hs, hh⟩
  exact hK _ _ ⟨hs, hh⟩
end Go.Proofs.YtfaeigbfnjkojaaGreatDoor.RL
