/- Points in memory: two numbers in a row of ten. -/
import Derived.Test.YtfaeigbfnjkojaaGreatDoorKxL
set_option linter.unusedVariables false
set_option linter.unusedSimpArgs false
namespace Go.Proofs.YtfaeigbfnjkojaaGreatDoor.Kx
open Go.RowKit Go.Proofs.YtfaeigbfnjkojaaGreatDoor.Cl
/-- x, as a quotient -/
structure P where
  x : E
  z : E
deriving DecidableEq
def P.l (p : P) : List Nat := p.x.l ++ p.z.l
def P.ok (p : P) : Prop := p.x.ok ∧ p.z.ok
theorem P.len (p : P) : p.l.length = 10 := rfl
theorem pt_size (p : P) : (u64s p.l).size = 10 := rfl
/-- a part of a row, loaded as a struct or an array -/
theorem run_at {Pr : Program} {o : Oper} {a : Act} {w : World} (ty : TypeId) (x : Operand) (ho : o.op = .load ty x) (g off : Nat) (hx : a.eval x = .pointer (some ⟨g, off, none⟩)) (cs : Array Value) (hc : ∀ j v, cs[j]? = some v → w.cell? ⟨g, off + j, none⟩ = some v) {d : TypeDesc}
    (hu : Pr.underlying ty = some d) (hd : (match d with | .struct _ | .array _ _ => true | _ => false) = true) (hi : (Pr.info? ty).map (·.size) = some cs.size) : (execOp a.eval o).run Pr w = .ok (.value (.agg cs)) w := by
  unfold execOp
  simp only [ho, hx, Instr.loadAt, Instr.sureAddr, Sem.run_bind, Sem.run_pure, Result.andThen_ok, Cv.run_loadVar_cells w g off ty cs d hc hu hd hi]
theorem pt_x {w : World} {b T : Nat} {p : P} (h : Row w b T p.l) : ∀ j v, (u64s p.x.l)[j]? = some v → w.cell? ⟨b, 0 + j, none⟩ = some v := by
  intro j v hv
  rw [Nat.zero_add]
  refine Rg.Blk.cell (row_blk h) j ?_
  match j, hv with
  | 0, hv => exact hv
  | 1, hv => exact hv
  | 2, hv => exact hv
  | 3, hv => exact hv
  | 4, hv => exact hv
  | j + 5, hv => simp [u64s, E.l] at hv
theorem pt_z {w : World} {b T : Nat} {p : P} (h : Row w b T p.l) : ∀ j v, (u64s p.z.l)[j]? = some v → w.cell? ⟨b, 5 + j, none⟩ = some v := by
  intro j v hv
  refine Rg.Blk.cell (row_blk h) (5 + j) ?_
  match j, hv with
  | 0, hv => exact hv
  | 1, hv => exact hv
  | 2, hv => exact hv
  | 3, hv => exact hv
  | 4, hv => exact hv
  | j + 5, hv => simp [u64s, E.l] at hv
end Go.Proofs.YtfaeigbfnjkojaaGreatDoor.Kx
