/- All the errors of package api, out of the row's condition: each lies at an address of its own. -/
import Derived.Test.YtfaeigbfnjkojaaGreatDoorErrA
import Derived.Stop.LaidErr
import Derived.LaidMore
set_option linter.unusedVariables false
set_option linter.unusedSimpArgs false
namespace Go.Proofs.YtfaeigbfnjkojaaGreatDoor.Ei
open Go.RowKit Go.ChangeShapes
def errN : List String := ["speakeasy/api.ErrArg", "speakeasy/api.ErrEnd", "speakeasy/api.ErrForm", "speakeasy/api.ErrBig", "speakeasy/api.ErrMac", "speakeasy/api.ErrState", "speakeasy/api.ErrFull", "speakeasy/api.ErrNone", "speakeasy/api.ErrHave", "speakeasy/api.ErrKey", "speakeasy/api.ErrSign", "speakeasy/api.ErrVersion", "speakeasy/api.ErrAlgo", "speakeasy/api.ErrHost", "speakeasy/api.ErrAuth", "speakeasy/api.ErrQuota", "speakeasy/api.ErrName", "speakeasy/api.ErrGone", "speakeasy/api.ErrWindow", "speakeasy/api.ErrKind"]
theorem starE : "*" ++ "errors.errorString" = "*errors.errorString" := by decide
theorem rowE (u : TypeId) (h : Tryz.prog.typeName? 3 u = some "*errors.errorString") : u = 183 :=
  typeName_ptr_named (nm := "errors.errorString") (by rw [starE]; kernel_rfl) (by kernel_rfl) (by decide) u (by rw [starE]; exact h)
theorem cellsES : Tryz.prog.cellsOf 201 = 1 := by kernel_rfl
theorem cellsSt : Tryz.prog.cellsOf 9 = 1 := by kernel_rfl
def IsErr (D : DataW Unit) : Prop := ∃ text : List UInt8, D = .iface "*errors.errorString" (.ptr (.agg [.lit (.string text)]))
def Rows (W : World) (ps : List MemPlace) : Prop := ∀ b off, MemPlace.cell b off ∈ ps →
    (∃ c t, W.heap[b]? = some (.cells c t (0, 0))) ∧ ∀ u v, W.cell? ⟨b, off, none⟩ = some (.iface u v) → Value.okWide Tryz.prog W .any 0 u v
set_option maxRecDepth 100000 in
theorem head_of {n : String} {D : DataW Unit} {r : List (String × DataW Unit)} {W : World} {g : Nat} {ps : List MemPlace} (h : DataW.LaidVars Tryz.prog W ((n, D) :: r) ps) (hr : Rows W ps) (hD : IsErr D) (hg : Tryz.prog.globalNamed n = some g) (ht : (Tryz.prog.globals[g]?).map (·.type) = some 25) :
    ∃ (a : Addr) (q : List MemPlace), W.cell? ⟨g, 0, none⟩ = some (.iface 183 (.pointer (some a))) ∧ DataW.LaidVars Tryz.prog W r q ∧ ps = MemPlace.cell g 0 :: MemPlace.cell a.block a.off :: q := by
  obtain ⟨text, rfl⟩ := hD
  obtain ⟨g0, t0, cs0, f0, p0, q0, hg0, ht0, hv0, hd0, hq, e0⟩ := h
  obtain rfl := Option.some.inj (hg.symm.trans hg0)
  obtain rfl := Option.some.inj (ht.symm.trans ht0)
  subst e0
  obtain ⟨l0⟩ := cs0
  have ok0 : ∀ u v, l0 = [.iface u v] → Value.okWide Tryz.prog W .any 0 u v := fun u v e => by
    subst e
    exact (hr g 0 (by simp [MemPlace.row])).2 u v (by simpa using World.var?_cell hg0 hv0 0)
  obtain ⟨a0, s0, rfl, _, _, _, rfl⟩ := errorString_of_trod Tryz.underlying25 rowE Tryz.underlying183 Tryz.underlying201 rfl rfl Tryz.underlying9 cellsES cellsSt hd0 ok0
  exact ⟨a0, q0, by simpa using World.var?_cell hg hv0 0, hq, by simp [MemPlace.row]⟩
theorem tail_of {x : String × DataW Unit} {r : List (String × DataW Unit)} {W : World} {ps : List MemPlace} (h : DataW.LaidVars Tryz.prog W (x :: r) ps) : ∃ p q, DataW.LaidVars Tryz.prog W r q ∧ ps = p ++ q := by
  obtain ⟨g0, t0, cs0, f0, p0, q0, hg0, ht0, hv0, hd0, hq, e0⟩ := h
  exact ⟨_, q0, hq, e0⟩
theorem place_of {W : World} {n : String} {D : DataW Unit} {g : Nat} (hD : IsErr D) (hg : Tryz.prog.globalNamed n = some g) (ht : (Tryz.prog.globals[g]?).map (·.type) = some 25) :
    ∀ (r : List (String × DataW Unit)) (ps : List MemPlace), DataW.LaidVars Tryz.prog W r ps → Rows W ps → (n, D) ∈ r → ∃ a : Addr, W.cell? ⟨g, 0, none⟩ = some (.iface 183 (.pointer (some a))) ∧ MemPlace.cell a.block a.off ∈ ps
  | [], _, _, _, hm => by simp at hm
  | x :: r, ps, h, hr, hm => by
    rcases List.mem_cons.1 hm with e | hm
    · subst e
      obtain ⟨a, q, hc, _, rfl⟩ := head_of h hr hD hg ht
      exact ⟨a, hc, by simp⟩
    · obtain ⟨p, q, hq, rfl⟩ := tail_of h
      obtain ⟨a, hc, hp⟩ := place_of hD hg ht r q hq (fun b off hb => hr b off (List.mem_append_right _ hb)) hm
      exact ⟨a, hc, List.mem_append_right _ hp⟩
theorem apart_of {W : World} {n n' : String} {D D' : DataW Unit} {g g' : Nat} (hD : IsErr D) (hD' : IsErr D') (hg : Tryz.prog.globalNamed n = some g) (ht : (Tryz.prog.globals[g]?).map (·.type) = some 25)
    (hg' : Tryz.prog.globalNamed n' = some g') (ht' : (Tryz.prog.globals[g']?).map (·.type) = some 25) (hn : n ≠ n') {a a' : Addr}
    (ha : W.cell? ⟨g, 0, none⟩ = some (.iface 183 (.pointer (some a)))) (ha' : W.cell? ⟨g', 0, none⟩ = some (.iface 183 (.pointer (some a')))) :
    ∀ (r : List (String × DataW Unit)) (ps : List MemPlace), DataW.LaidVars Tryz.prog W r ps → Rows W ps → ps.Nodup → (n, D) ∈ r → (n', D') ∈ r → a ≠ a'
  | [], _, _, _, _, hm, _ => by simp at hm
  | x :: r, ps, h, hr, hnd, hm, hm' => by
    have one : ∀ {b b' : Addr} {g : Nat}, W.cell? ⟨g, 0, none⟩ = some (.iface 183 (.pointer (some b))) → W.cell? ⟨g, 0, none⟩ = some (.iface 183 (.pointer (some b'))) → b = b' := by
      intro b b' g h1 h2
      rw [h1] at h2
      simpa using h2
    rcases List.mem_cons.1 hm with e | h1 <;> rcases List.mem_cons.1 hm' with e' | h2
    · rw [← e] at e'
      exact absurd (congrArg Prod.fst e').symm hn
    · subst e
      obtain ⟨b, q, hc, hq, rfl⟩ := head_of h hr hD hg ht
      obtain rfl := one ha hc
      obtain ⟨b', hc', hp'⟩ := place_of hD' hg' ht' r q hq (fun b off hb => hr b off (by simp [hb])) h2
      obtain rfl := one ha' hc'
      rintro rfl
      simp only [List.nodup_cons] at hnd
      exact hnd.2.1 hp'
    · subst e'
      obtain ⟨b, q, hc, hq, rfl⟩ := head_of h hr hD' hg' ht'
      obtain rfl := one ha' hc
      obtain ⟨b', hc', hp'⟩ := place_of hD hg ht r q hq (fun b off hb => hr b off (by simp [hb])) h1
      obtain rfl := one ha hc'
      rintro rfl
      simp only [List.nodup_cons] at hnd
      exact hnd.2.1 hp'
    · obtain ⟨p, q, hq, rfl⟩ := tail_of h
      exact apart_of hD hD' hg ht hg' ht' hn ha ha' r q hq (fun b off hb => hr b off (List.mem_append_right _ hb)) (List.nodup_append.1 hnd).2.1 h1 h2
theorem errN_g : ∀ k, k < 20 → Tryz.prog.globalNamed (errN.getD k "") = some (errG.getD k 0) ∧ (Tryz.prog.globals[errG.getD k 0]?).map (·.type) = some 25
  | 0, _ => ⟨by kernel_rfl, by kernel_rfl⟩
  | 1, _ => ⟨by kernel_rfl, by kernel_rfl⟩
  | 2, _ => ⟨by kernel_rfl, by kernel_rfl⟩
  | 3, _ => ⟨by kernel_rfl, by kernel_rfl⟩
  | 4, _ => ⟨by kernel_rfl, by kernel_rfl⟩
  | 5, _ => ⟨by kernel_rfl, by kernel_rfl⟩
  | 6, _ => ⟨by kernel_rfl, by kernel_rfl⟩
  | 7, _ => ⟨by kernel_rfl, by kernel_rfl⟩
  | 8, _ => ⟨by kernel_rfl, by kernel_rfl⟩
  | 9, _ => ⟨by kernel_rfl, by kernel_rfl⟩
  | 10, _ => ⟨by kernel_rfl, by kernel_rfl⟩
  | 11, _ => ⟨by kernel_rfl, by kernel_rfl⟩
  | 12, _ => ⟨by kernel_rfl, by kernel_rfl⟩
  | 13, _ => ⟨by kernel_rfl, by kernel_rfl⟩
  | 14, _ => ⟨by kernel_rfl, by kernel_rfl⟩
  | 15, _ => ⟨by kernel_rfl, by kernel_rfl⟩
  | 16, _ => ⟨by kernel_rfl, by kernel_rfl⟩
  | 17, _ => ⟨by kernel_rfl, by kernel_rfl⟩
  | 18, _ => ⟨by kernel_rfl, by kernel_rfl⟩
  | 19, _ => ⟨by kernel_rfl, by kernel_rfl⟩
  | n + 20, h => absurd h (by omega)
theorem errN_ne : ∀ i j, i < 20 → j < 20 → i ≠ j → errN.getD i "" ≠ errN.getD j "" := by
  have : ∀ i : Fin 20, ∀ j : Fin 20, i ≠ j → errN.getD i.val "" ≠ errN.getD j.val "" := by decide +kernel
  intro i j hi hj hne
  exact this ⟨i, hi⟩ ⟨j, hj⟩ (by simpa using hne)
theorem errsAll_of {W : World} {r : List (String × DataW Unit)} (h : laidMet Tryz.prog r W) (m : ∀ k, k < 20 → ∃ D, (errN.getD k "", D) ∈ r ∧ IsErr D) : ∃ a, ErrsAll W a := by
  obtain ⟨ps, hv, hnd, hrows⟩ := h
  have hr : Rows W ps := hrows
  have each : ∀ k, k < 20 → ∃ a : Addr, W.cell? ⟨errG.getD k 0, 0, none⟩ = some (.iface 183 (.pointer (some a))) ∧ MemPlace.cell a.block a.off ∈ ps := fun k hk => by
    obtain ⟨D, hm, hD⟩ := m k hk
    exact place_of hD (errN_g k hk).1 (errN_g k hk).2 r ps hv hr hm
  refine ⟨fun k => if hk : k - 1 < 20 then Classical.choose (each (k - 1) hk) else ⟨0, 0, none⟩, ?_, ?_, ?_⟩
  · intro k hk
    have e : k + 1 - 1 < 20 := by omega
    rw [dif_pos e]
    exact (Classical.choose_spec (each (k + 1 - 1) e)).1
  · intro i j hi hi2 hj hj2 hne
    have ei : i - 1 < 20 := by omega
    have ej : j - 1 < 20 := by omega
    show (if hk : i - 1 < 20 then Classical.choose (each (i - 1) hk) else _) ≠ (if hk : j - 1 < 20 then Classical.choose (each (j - 1) hk) else _)
    rw [dif_pos ei, dif_pos ej]
    obtain ⟨D, hm, hD⟩ := m (i - 1) ei
    obtain ⟨D', hm', hD'⟩ := m (j - 1) ej
    exact apart_of hD hD' (errN_g _ ei).1 (errN_g _ ei).2 (errN_g _ ej).1 (errN_g _ ej).2 (errN_ne _ _ ei ej (by omega)) (Classical.choose_spec (each (i - 1) ei)).1 (Classical.choose_spec (each (j - 1) ej)).1 r ps hv hr hnd hm hm'
  · intro k hk hk2
    have e : k - 1 < 20 := by omega
    show ∃ c t, W.heap[(if hk : k - 1 < 20 then Classical.choose (each (k - 1) hk) else (⟨0, 0, none⟩ : Addr)).block]? = _
    rw [dif_pos e]
    exact (hr _ _ (Classical.choose_spec (each (k - 1) e)).2).1
end Go.Proofs.YtfaeigbfnjkojaaGreatDoor.Ei
