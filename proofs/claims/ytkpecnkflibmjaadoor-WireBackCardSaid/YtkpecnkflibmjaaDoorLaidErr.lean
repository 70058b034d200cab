/- The errors of the package's variables, out of the row's condition. -/
import Derived.Test.YtkpecnkflibmjaaDoorWireIn
import Derived.Stop.LaidErr
import Derived.LaidMore
set_option linter.unusedVariables false
set_option linter.unusedSimpArgs false
namespace Go.Proofs.YtkpecnkflibmjaaDoor.Wi
open Go.RowKit Go.ChangeShapes
variable {P : Program}
theorem laid_mem {n nm : String} {text : List UInt8} {D : DataW Unit} {W : World} {g : Nat} {ti tp te ts : TypeId} {ms : Array (String × TypeId)} {f : Field} (hD : D = .iface nm (.ptr (.agg [.lit (.string text)])))
    (hg : P.globalNamed n = some g) (ht : (P.globals[g]?).map (·.type) = some ti) (hi : P.underlying ti = some (.interface ms)) (hrow : ∀ u, P.typeName? 3 u = some nm → u = tp)
    (hp : P.underlying tp = some (.pointer te)) (he : P.underlying te = some (.struct #[f])) (hft : f.type = ts) (hfo : f.offset = 0) (hs : P.underlying ts = some .string) (hc : P.cellsOf te = 1) (hcs : P.cellsOf ts = 1) :
    ∀ {r : List (String × DataW Unit)}, laidMet P r W → (n, D) ∈ r → ∃ a : Addr, W.cell? ⟨g, 0, none⟩ = some (.iface tp (.pointer (some a)))
  | x :: r, h, hm => by
    rcases List.mem_cons.1 hm with e | hm
    · subst hD
      rw [← e] at h
      obtain ⟨a, s, hv, _⟩ := laid_sentinel h hg ht hi hrow hp he hft hfo hs hc hcs
      exact ⟨a, by simpa using World.var?_cell hg hv 0⟩
    · exact laid_mem hD hg ht hi hrow hp he hft hfo hs hc hcs (laidMet.tail h) hm
theorem starE : "*" ++ "errors.errorString" = "*errors.errorString" := by decide
theorem rowE (u : TypeId) (h : Tryd.prog.typeName? 3 u = some "*errors.errorString") : u = 136 :=
  typeName_ptr_named (nm := "errors.errorString") (by rw [starE]; kernel_rfl) (by kernel_rfl) (by decide) u (by rw [starE]; exact h)
theorem cellsES : Tryd.prog.cellsOf 158 = 1 := by kernel_rfl
theorem cellsSt : Tryd.prog.cellsOf 9 = 1 := by kernel_rfl
theorem err_cell {n : String} {text : List UInt8} {D : DataW Unit} {W : World} {g : Nat} (hg : Tryd.prog.globalNamed n = some g) (ht : (Tryd.prog.globals[g]?).map (·.type) = some 57)
    {r : List (String × DataW Unit)} (h : laidMet Tryd.prog r W) (hD : D = .iface "*errors.errorString" (.ptr (.agg [.lit (.string text)]))) (hm : (n, D) ∈ r) : ∃ a : Addr, W.cell? ⟨g, 0, none⟩ = some (.iface 136 (.pointer (some a))) :=
  laid_mem hD hg ht Tryd.underlying57 rowE Tryd.underlying136 Tryd.underlying158 rfl rfl Tryd.underlying9 cellsES cellsSt h hm
theorem gEnd : Tryd.prog.globalNamed "speakeasy/api.ErrEnd" = some 3 := by kernel_rfl
theorem gForm : Tryd.prog.globalNamed "speakeasy/api.ErrForm" = some 0 := by kernel_rfl
theorem gBig : Tryd.prog.globalNamed "speakeasy/api.ErrBig" = some 1 := by kernel_rfl
theorem errs_of {W : World} {r : List (String × DataW Unit)} (h : laidMet Tryd.prog r W) {D2 D3 D4 : DataW Unit} {t2 t3 t4 : List UInt8}
    (h2 : D2 = .iface "*errors.errorString" (.ptr (.agg [.lit (.string t2)]))) (m2 : ("speakeasy/api.ErrEnd", D2) ∈ r)
    (h3 : D3 = .iface "*errors.errorString" (.ptr (.agg [.lit (.string t3)]))) (m3 : ("speakeasy/api.ErrForm", D3) ∈ r)
    (h4 : D4 = .iface "*errors.errorString" (.ptr (.agg [.lit (.string t4)]))) (m4 : ("speakeasy/api.ErrBig", D4) ∈ r) : ∃ E, Errs W E := by
  obtain ⟨a2, c2⟩ := err_cell gEnd (by kernel_rfl) h h2 m2
  obtain ⟨a3, c3⟩ := err_cell gForm (by kernel_rfl) h h3 m3
  obtain ⟨a4, c4⟩ := err_cell gBig (by kernel_rfl) h h4 m4
  refine ⟨fun k => .iface 136 (.pointer (some (if k = 2 then a2 else if k = 3 then a3 else a4))), fun k _ => ⟨_, rfl⟩, ?_, ?_, ?_⟩
  · exact c4
  · exact c3
  · exact c2
end Go.Proofs.YtkpecnkflibmjaaDoor.Wi
