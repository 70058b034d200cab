/- errors.Is at errors of errors.New's make: the walks (after the kit's worked Sentry texts, at this dump's numbers). api.Code: the walk; all the errors of package api. -/
import Derived.Test.YtfaeigbfnjkojaaGreatDoorChecked
import Derived.WalkKit
import Derived.LaidEql
import Derived.Stop.Asserts
import Derived.RowKitTokens
import Derived.Below
import Derived.Lib.Hide
import Derived.Deep.DeepCutAuto
set_option linter.unusedVariables false
set_option linter.unusedSimpArgs false
namespace Go.Proofs.YtfaeigbfnjkojaaGreatDoor.Ei
open Go.RowKit Go.Extern.Stop Go.Stop Go.Extern Go.Extern.Rtype
theorem isTypeOf (v : Value) (w : World) : (Extern.ReflectliteType.typeOf #[.iface 183 v]).run Tryz.prog w = .ok (.iface 120 (.agg #[.pointer (some ⟨26, 183, none⟩)])) w := by kernel_rfl
def cmpX : Array Value → Sem Value := Extern.ReflectliteType.method fun t => do noPackHeld "Comparable" t; pure (.bool (← typeInfo t).comparable)
theorem isComparable (w : World) : (cmpX #[.agg #[.pointer (some ⟨26, 183, none⟩)]]).run Tryz.prog w = .ok (.bool true) w := by kernel_rfl
theorem isMethodComparable (v : Value) (w : World) : (Go.method 313 120 v "Comparable").run Tryz.prog w = .ok (135, v) w := by kernel_rfl
theorem isComp : (Tryz.prog.info? 183).map (·.comparable) = some true := by kernel_rfl
theorem isSize : (Tryz.prog.info? 201).map (·.size) = some 1 := by kernel_rfl
theorem noIsE (v : Value) (xT : TypeId) (w : World) : (Instr.typeAssert (.iface 183 v) xT 122 true).run Tryz.prog w = .ok (.tuple #[.nilIface, .bool false]) w := run_typeAssert_lacksB Tryz.underlying122 (by kernel_rfl) (by kernel_rfl) v xT w
theorem noUnwrapE (v : Value) (xT : TypeId) (w : World) : (Instr.typeAssert (.iface 183 v) xT 125 true).run Tryz.prog w = .ok (.tuple #[.nilIface, .bool false]) w := run_typeAssert_lacksB Tryz.underlying125 (by kernel_rfl) (by kernel_rfl) v xT w
theorem noUnwrapsE (v : Value) (xT : TypeId) (w : World) : (Instr.typeAssert (.iface 183 v) xT 127 true).run Tryz.prog w = .ok (.tuple #[.nilIface, .bool false]) w := run_typeAssert_lacksB Tryz.underlying127 (by kernel_rfl) (by kernel_rfl) v xT w
theorem is_same (a : Addr) (w : World) :
    Calls Tryz.prog 28 #[.iface 183 (.pointer (some a)), .iface 183 (.pointer (some a))] w fun e w' => e = .returned (.bool true) ∧ w = w' := by
  obtain ⟨i, hi, hcmp⟩ := Option.map_eq_some_iff.1 isComp
  obtain ⟨j, hj, hjs⟩ := Option.map_eq_some_iff.1 isSize
  have h8 := @run_callFunc_extern Tryz.prog 49 _ Extern.ReflectliteType.typeOf Tryz.func49 (by kernel_rfl) (by kernel_rfl) (by kernel_rfl) (by kernel_rfl)
  have h32 := @run_callFunc_extern Tryz.prog 135 _ cmpX Tryz.func135 (by kernel_rfl) (by kernel_rfl) (by kernel_rfl) (by kernel_rfl)
  have tT := isTypeOf
  have cT := isComparable
  have mR := isMethodComparable
  have heq := run_eql_iface_ptr_same (P := Tryz.prog) w a Tryz.underlying25 Tryz.underlying183 hi hcmp hj
  go_enter Tryz.func28, Tryz.ntmps28
  go_wp2
  refine wp_loop_rounds 1 ?_
  rw [rounds_succ]
  go_wp2
  go_ret
  exact ⟨rfl, rfl⟩
theorem is_nil (b : Addr) (w : World) :
    Calls Tryz.prog 28 #[.nilIface, .iface 183 (.pointer (some b))] w fun e w' => e = .returned (.bool false) ∧ w = w' := by
  have hn := run_eql_iface_nil_left (P := Tryz.prog) w 183 (.pointer (some b)) Tryz.underlying25
  go_enter Tryz.func28, Tryz.ntmps28
  go_wp2
  go_ret
  exact ⟨rfl, rfl⟩
theorem is_other (a b : Addr) (ca cb : Array Value) (ta tb : TypeId) (w : World) (hne : a ≠ b) (ha : w.heap[a.block]? = some (.cells ca ta (0, 0))) (hb : w.heap[b.block]? = some (.cells cb tb (0, 0))) :
    Calls Tryz.prog 28 #[.iface 183 (.pointer (some a)), .iface 183 (.pointer (some b))] w fun e w' => e = .returned (.bool false) ∧ w = w' := by
  obtain ⟨i, hi, hcmp⟩ := Option.map_eq_some_iff.1 isComp
  obtain ⟨j, hj, hjs⟩ := Option.map_eq_some_iff.1 isSize
  have h8 := @run_callFunc_extern Tryz.prog 49 _ Extern.ReflectliteType.typeOf Tryz.func49 (by kernel_rfl) (by kernel_rfl) (by kernel_rfl) (by kernel_rfl)
  have h32 := @run_callFunc_extern Tryz.prog 135 _ cmpX Tryz.func135 (by kernel_rfl) (by kernel_rfl) (by kernel_rfl) (by kernel_rfl)
  have tT := isTypeOf
  have cT := isComparable
  have mR := isMethodComparable
  have nE := noIsE
  have uE := noUnwrapE
  have vE := noUnwrapsE
  have heq := run_eql_iface_ptr_other (P := Tryz.prog) w Tryz.underlying25 Tryz.underlying183 hi hcmp hj (by rw [hjs]; decide) hne ha hb
  go_enter Tryz.func28, Tryz.ntmps28
  go_wp2
  refine wp_loop_rounds 1 ?_
  rw [rounds_succ]
  go_wp2
  go_ret
  exact ⟨rfl, rfl⟩
end Go.Proofs.YtfaeigbfnjkojaaGreatDoor.Ei
namespace Go.Proofs.YtfaeigbfnjkojaaGreatDoor.Ei
open Go.RowKit
/-- the variables of the errors, in their order -/
def errG : List Nat := [1, 2, 3, 4, 5, 6, 7, 8, 9, 0, 10, 11, 12, 13, 14, 15, 16, 17, 18, 19]
/-- error number k + 1 is laid at address a (k + 1) -/
structure ErrsAll (w : World) (a : Nat → Addr) : Prop where
  cell : ∀ k, k < 20 → w.cell? ⟨errG.getD k 0, 0, none⟩ = some (.iface 183 (.pointer (some (a (k + 1)))))
  ne : ∀ i j, 1 ≤ i → i ≤ 20 → 1 ≤ j → j ≤ 20 → i ≠ j → a i ≠ a j
  row : ∀ k, 1 ≤ k → k ≤ 20 → ∃ c t, w.heap[(a k).block]? = some (.cells c t (0, 0))
theorem ErrsAll.below {w w' : World} {a : Nat → Addr} (h : ErrsAll w a) (hb : Below w.heap.size w w') : ErrsAll w' a :=
  ⟨fun k hk => (hb.cell (World.block_lt_of_cell? w _ (h.cell k hk))).trans (h.cell k hk), h.ne, fun k h1 h2 => by
    obtain ⟨c, t, hr⟩ := h.row k h1 h2
    exact ⟨c, t, (hb.block _ (Array.getElem?_eq_some_iff.1 hr).1).trans hr⟩⟩
/-- an error by its number; 0: none -/
def evA (a : Nat → Addr) (c : Nat) : Value := if c = 0 then .nilIface else .iface 183 (.pointer (some (a c)))
theorem evA_zero (a : Nat → Addr) : evA a 0 = .nilIface := rfl
theorem evA_pos (a : Nat → Addr) {c : Nat} (h : c ≠ 0) : evA a c = .iface 183 (.pointer (some (a c))) := if_neg h
/-- errors.Is of two of them -/
theorem is_any (w : World) (a : Nat → Addr) (h : ErrsAll w a) (c k : Nat) (hc : c ≤ 20) (hk1 : 1 ≤ k) (hk : k ≤ 20) :
    Calls Tryz.prog 28 #[evA a c, .iface 183 (.pointer (some (a k)))] w fun e w' => e = .returned (.bool (decide (c = k))) ∧ w = w' := by
  by_cases h0 : c = 0
  · subst h0
    rw [evA_zero, show decide (0 = k) = false by rw [decide_eq_false_iff_not]; omega]
    exact is_nil (a k) w
  · rw [evA_pos a h0]
    by_cases he : c = k
    · subst he
      rw [show decide (c = c) = true by simp]
      exact is_same (a c) w
    · rw [show decide (c = k) = false by rw [decide_eq_false_iff_not]; exact he]
      obtain ⟨ca, ta, ha⟩ := h.row c (by omega) hc
      obtain ⟨cb, tb, hb⟩ := h.row k hk1 hk
      exact is_other (a c) (a k) ca cb ta tb w (h.ne c k (by omega) hc hk1 hk he) ha hb
theorem run_index_part {P : Program} (w : World) (xT E : TypeId) (n : Nat) (cs : Array Value) (k : Nat) (v : Value) (d : TypeDesc) (hu : P.underlying xT = some (.array n E)) (hi : (P.info? E).map (·.size) = some 1) (hE : P.underlying E = some d) (hd : (match d with | .struct _ | .array _ _ => true | _ => false) = false) (hk : k < n) (hc : cs[k]? = some v) :
    (Instr.index xT (.agg cs) (.int .i64 k)).run P w = .ok v w := by
  cases hq : P.info? E with
  | none => simp [hq] at hi
  | some i =>
    have hs : i.size = 1 := by simpa [hq] using hi
    have hagg : (isAgg E).run P w = .ok false w := by
      unfold isAgg
      rw [Sem.run_bind, run_underlying hE w]
      cases d <;> simp_all
    unfold Instr.index
    simp [asIntOf, Sem.run_bind, run_underlying hu, sizeOf, typeInfo, hq, hs, part, hagg, hk, hc]
def errArr (a : Nat → Addr) : Array Value := #[.iface 183 (.pointer (some (a 1))), .iface 183 (.pointer (some (a 2))), .iface 183 (.pointer (some (a 3))), .iface 183 (.pointer (some (a 4))), .iface 183 (.pointer (some (a 5))), .iface 183 (.pointer (some (a 6))), .iface 183 (.pointer (some (a 7))), .iface 183 (.pointer (some (a 8))), .iface 183 (.pointer (some (a 9))), .iface 183 (.pointer (some (a 10))), .iface 183 (.pointer (some (a 11))), .iface 183 (.pointer (some (a 12))), .iface 183 (.pointer (some (a 13))), .iface 183 (.pointer (some (a 14))), .iface 183 (.pointer (some (a 15))), .iface 183 (.pointer (some (a 16))), .iface 183 (.pointer (some (a 17))), .iface 183 (.pointer (some (a 18))), .iface 183 (.pointer (some (a 19))), .iface 183 (.pointer (some (a 20)))]
theorem errArr_get (a : Nat → Addr) (k : Nat) (hk : k < 20) : (errArr a)[k]? = some (.iface 183 (.pointer (some (a (k + 1))))) := by
  match k, hk with
  | 0, _ => rfl
  | 1, _ => rfl
  | 2, _ => rfl
  | 3, _ => rfl
  | 4, _ => rfl
  | 5, _ => rfl
  | 6, _ => rfl
  | 7, _ => rfl
  | 8, _ => rfl
  | 9, _ => rfl
  | 10, _ => rfl
  | 11, _ => rfl
  | 12, _ => rfl
  | 13, _ => rfl
  | 14, _ => rfl
  | 15, _ => rfl
  | 16, _ => rfl
  | 17, _ => rfl
  | 18, _ => rfl
  | 19, _ => rfl
  | n + 20, h => exact absurd h (by omega)
set_option maxRecDepth 20000 in
set_option maxHeartbeats 2000000 in
theorem Code_any (w : World) (a : Nat → Addr) (h : ErrsAll w a) (c : Nat) (hc : c ≤ 20) :
    Calls Tryz.prog 10 #[evA a c] w fun e w' => e = .returned (.int .i64 c) ∧ w = w' := by
  by_cases h0 : c = 0
  · subst h0
    clear h hc
    rw [evA_zero]
    go_enter Tryz.func10, Tryz.ntmps10
    go_wp2
    go_ret
    exact ⟨rfl, rfl⟩
  have e0 : w.cell? ⟨1, 0, none⟩ = some (.iface 183 (.pointer (some (a 1)))) := h.cell 0 (by decide)
  have e1 : w.cell? ⟨2, 0, none⟩ = some (.iface 183 (.pointer (some (a 2)))) := h.cell 1 (by decide)
  have e2 : w.cell? ⟨3, 0, none⟩ = some (.iface 183 (.pointer (some (a 3)))) := h.cell 2 (by decide)
  have e3 : w.cell? ⟨4, 0, none⟩ = some (.iface 183 (.pointer (some (a 4)))) := h.cell 3 (by decide)
  have e4 : w.cell? ⟨5, 0, none⟩ = some (.iface 183 (.pointer (some (a 5)))) := h.cell 4 (by decide)
  have e5 : w.cell? ⟨6, 0, none⟩ = some (.iface 183 (.pointer (some (a 6)))) := h.cell 5 (by decide)
  have e6 : w.cell? ⟨7, 0, none⟩ = some (.iface 183 (.pointer (some (a 7)))) := h.cell 6 (by decide)
  have e7 : w.cell? ⟨8, 0, none⟩ = some (.iface 183 (.pointer (some (a 8)))) := h.cell 7 (by decide)
  have e8 : w.cell? ⟨9, 0, none⟩ = some (.iface 183 (.pointer (some (a 9)))) := h.cell 8 (by decide)
  have e9 : w.cell? ⟨0, 0, none⟩ = some (.iface 183 (.pointer (some (a 10)))) := h.cell 9 (by decide)
  have e10 : w.cell? ⟨10, 0, none⟩ = some (.iface 183 (.pointer (some (a 11)))) := h.cell 10 (by decide)
  have e11 : w.cell? ⟨11, 0, none⟩ = some (.iface 183 (.pointer (some (a 12)))) := h.cell 11 (by decide)
  have e12 : w.cell? ⟨12, 0, none⟩ = some (.iface 183 (.pointer (some (a 13)))) := h.cell 12 (by decide)
  have e13 : w.cell? ⟨13, 0, none⟩ = some (.iface 183 (.pointer (some (a 14)))) := h.cell 13 (by decide)
  have e14 : w.cell? ⟨14, 0, none⟩ = some (.iface 183 (.pointer (some (a 15)))) := h.cell 14 (by decide)
  have e15 : w.cell? ⟨15, 0, none⟩ = some (.iface 183 (.pointer (some (a 16)))) := h.cell 15 (by decide)
  have e16 : w.cell? ⟨16, 0, none⟩ = some (.iface 183 (.pointer (some (a 17)))) := h.cell 16 (by decide)
  have e17 : w.cell? ⟨17, 0, none⟩ = some (.iface 183 (.pointer (some (a 18)))) := h.cell 17 (by decide)
  have e18 : w.cell? ⟨18, 0, none⟩ = some (.iface 183 (.pointer (some (a 19)))) := h.cell 18 (by decide)
  have e19 : w.cell? ⟨19, 0, none⟩ = some (.iface 183 (.pointer (some (a 20)))) := h.cell 19 (by decide)
  have HE := Lib.hid h
  rw [evA_pos a h0]
  have hc1 : 1 ≤ c := by omega
  clear h h0
  go_enter Tryz.func10, Tryz.ntmps10
  go_wp2_with fail
  go_loop [28] (fun i => ∃ k : Nat, k < c ∧ i = .int .i64 k) (fun i => 20 - (intOf i).toNat)
  case atStart => exact ⟨0, by omega, rfl⟩
  case round =>
    obtain ⟨k, hk, rfl⟩ := hrel
    have hk20 : (k : Int) < 20 := by omega
    have hidx := run_index_part (P := Tryz.prog) w 63 25 20 (errArr a) k _ _ Tryz.underlying63 (by kernel_rfl) Tryz.underlying25 rfl (by omega) (errArr_get a k (by omega))
    unfold errArr at hidx
    have HK := Lib.hid (is_any w a HE.out c (k + 1) hc (by omega) (by omega))
    rw [evA_pos a (by omega)] at HK
    by_cases hck : c = k + 1
    · have hdec : decide (c = k + 1) = true := by simpa using hck
      rw [hdec] at HK
      have HCK := Lib.hid hck
      clear hck hdec
      go_wp2_with (go_at_call 28; refine HK.out.mono ?_; rintro e w1 ⟨rfl, rfl⟩; skip)
      go_ret
      exact ⟨by rw [HCK.out]; simp, rfl⟩
    · have hdec : decide (c = k + 1) = false := by simpa using hck
      rw [hdec] at HK
      have hk1 : k + 1 < c := by omega
      clear hck hdec
      go_wp2_with (go_at_call 28; refine HK.out.mono ?_; rintro e w1 ⟨rfl, rfl⟩; skip)
      go_round
      case rel => exact ⟨k + 1, hk1, by go_num⟩
      case measure => simp [intOf]; omega
end Go.Proofs.YtfaeigbfnjkojaaGreatDoor.Ei
