/- errors.Is at a Fault that wraps an error of errors.New's make; api.Code of it. -/
import Derived.Test.YtfaeigbfnjkojaaGreatDoorErrA
import Derived.Test.YtfaeigbfnjkojaaGreatDoorGenA
set_option linter.unusedVariables false
set_option linter.unusedSimpArgs false
namespace Go.Proofs.YtfaeigbfnjkojaaGreatDoor.Ei
open Go.RowKit Go.Extern.Stop Go.Stop Go.Extern Go.Extern.Rtype
theorem noIsF (v : Value) (xT : TypeId) (w : World) : (Instr.typeAssert (.iface 78 v) xT 122 true).run Tryz.prog w = .ok (.tuple #[.nilIface, .bool false]) w := run_typeAssert_lacksB Tryz.underlying122 (by kernel_rfl) (by kernel_rfl) v xT w
theorem hasUnwrapF (v : Value) (xT : TypeId) (w : World) : (Instr.typeAssert (.iface 78 v) xT 125 true).run Tryz.prog w = .ok (.tuple #[.iface 78 v, .bool true]) w := run_typeAssert_hasB Tryz.underlying125 (by kernel_rfl) v xT w
theorem methodUnwrapF (v : Value) (w : World) : (Go.method 313 78 v "Unwrap").run Tryz.prog w = .ok (129, v) w := by kernel_rfl
theorem Unwrap_any (w : World) (fb : Nat) (name : ByteArray) (e : Value) (h : Rg.Blk w fb 82 #[.string name, e]) (he : ∃ t p, e = .iface t p) : Calls Tryz.prog 129 #[.pointer (some ⟨fb, 0, none⟩)] w fun e' w' => e' = .returned e ∧ w = w' := by
  obtain ⟨t, p, rfl⟩ := he
  have c1 := h.cell 1 (v := .iface t p) rfl
  go_enter Tryz.func129, Tryz.ntmps129
  go_wp2_with fail
  go_ret
  exact ⟨rfl, rfl⟩
theorem is_fault (w : World) (a : Nat → Addr) (h : ErrsAll w a) (c k : Nat) (hc1 : 1 ≤ c) (hc : c ≤ 20) (hk1 : 1 ≤ k) (hk : k ≤ 20) (fb : Nat) (name : ByteArray) (hf : Rg.Blk w fb 82 #[.string name, .iface 183 (.pointer (some (a c)))]) :
    Calls Tryz.prog 28 #[.iface 78 (.pointer (some ⟨fb, 0, none⟩)), .iface 183 (.pointer (some (a k)))] w fun e w' => e = .returned (.bool (decide (c = k))) ∧ w = w' := by
  obtain ⟨i, hi, hcmp⟩ := Option.map_eq_some_iff.1 isComp
  obtain ⟨j, hj, hjs⟩ := Option.map_eq_some_iff.1 isSize
  have h8 := @run_callFunc_extern Tryz.prog 49 _ Extern.ReflectliteType.typeOf Tryz.func49 (by kernel_rfl) (by kernel_rfl) (by kernel_rfl) (by kernel_rfl)
  have h32 := @run_callFunc_extern Tryz.prog 135 _ cmpX Tryz.func135 (by kernel_rfl) (by kernel_rfl) (by kernel_rfl) (by kernel_rfl)
  have tT := isTypeOf
  have cT := isComparable
  have mR := isMethodComparable
  have nF := noIsF
  have uF := hasUnwrapF
  have mU := methodUnwrapF
  have nE := noIsE
  have uE := noUnwrapE
  have vE := noUnwrapsE
  have het := run_eql_iface_types (P := Tryz.prog) 78 183 (.pointer (some ⟨fb, 0, none⟩)) (.pointer (some (a k))) Tryz.underlying25 (by decide) w
  have HUW := Lib.hid (Unwrap_any w fb name _ hf ⟨_, _, rfl⟩)
  by_cases he : c = k
  · subst he
    have heq := run_eql_iface_ptr_same (P := Tryz.prog) w (a c) Tryz.underlying25 Tryz.underlying183 hi hcmp hj
    clear h hf hc1 hc hk1 hk
    go_enter Tryz.func28, Tryz.ntmps28
    go_wp2
    refine wp_loop_rounds 2 ?_
    rw [rounds_succ]
    go_wp2_with (go_at_call 129; refine HUW.out.mono ?_; rintro e w' ⟨rfl, rfl⟩; skip)
    rw [rounds_succ]
    go_wp2_with fail
    go_ret
    exact ⟨by simp, rfl⟩
  · obtain ⟨ca, ta, ha⟩ := h.row c hc1 hc
    obtain ⟨cb, tb, hb⟩ := h.row k hk1 hk
    have heq := run_eql_iface_ptr_other (P := Tryz.prog) w Tryz.underlying25 Tryz.underlying183 hi hcmp hj (by rw [hjs]; decide) (h.ne c k hc1 hc hk1 hk he) ha hb
    have hd : decide (c = k) = false := by simpa using he
    clear h hf hc1 hc hk1 hk he ha hb
    go_enter Tryz.func28, Tryz.ntmps28
    go_wp2
    refine wp_loop_rounds 2 ?_
    rw [rounds_succ]
    go_wp2_with (go_at_call 129; refine HUW.out.mono ?_; rintro e w' ⟨rfl, rfl⟩; skip)
    rw [rounds_succ]
    go_wp2_with fail
    go_ret
    exact ⟨by rw [hd]; rfl, rfl⟩
theorem Code_fault (w : World) (a : Nat → Addr) (h : ErrsAll w a) (c : Nat) (hc1 : 1 ≤ c) (hc : c ≤ 20) (fb : Nat) (name : ByteArray) (hf : Rg.Blk w fb 82 #[.string name, .iface 183 (.pointer (some (a c)))]) :
    Calls Tryz.prog 10 #[.iface 78 (.pointer (some ⟨fb, 0, none⟩))] w fun e w' => e = .returned (.int .i64 c) ∧ w = w' := by
  have e0 : w.cell? ⟨1, 0, none⟩ = some (.iface 183 (.pointer (some (a 1)))) := h.cell 0 (by decide)
  have e1 : w.cell? ⟨2, 0, none⟩ = some (.iface 183 (.pointer (some (a 2)))) := h.cell 1 (by decide)
  have e2 : w.cell? ⟨3, 0, none⟩ = some (.iface 183 (.pointer (some (a 3)))) := h.cell 2 (by decide)
  have e3 : w.cell? ⟨4, 0, none⟩ = some (.iface 183 (.pointer (some (a 4)))) := h.cell 3 (by decide)
  have e4 : w.cell? ⟨5, 0, none⟩ = some (.iface 183 (.pointer (some (a 5)))) := h.cell 4 (by decide)
  have e5 : w.cell? ⟨6, 0, none⟩ = some (.iface 183 (.pointer (some (a 6)))) := h.cell 5 (by decide)
  have e6 : w.cell? ⟨7, 0, none⟩ = some (.iface 183 (.pointer (some (a 7)))) := h.cell 6 (by decide)
  have e7 : w.cell? ⟨8, 0, none⟩ = some (.iface 183 (.pointer (some (a 8)))) := h.cell 7 (by decide)
  have e8 : w.cell? ⟨9, 0, none⟩ = some (.iface 183 (.pointer (some (a 9)))) := h.cell 8 (by decide)
  have e9 : w.cell? ⟨0, 0, none⟩ = some (.iface 183 (.pointer (some (a 10)))) := h.cell 9 (by decide)
  have e10 : w.cell? ⟨10, 0, none⟩ = some (.iface 183 (.pointer (some (a 11)))) := h.cell 10 (by decide)
  have e11 : w.cell? ⟨11, 0, none⟩ = some (.iface 183 (.pointer (some (a 12)))) := h.cell 11 (by decide)
  have e12 : w.cell? ⟨12, 0, none⟩ = some (.iface 183 (.pointer (some (a 13)))) := h.cell 12 (by decide)
  have e13 : w.cell? ⟨13, 0, none⟩ = some (.iface 183 (.pointer (some (a 14)))) := h.cell 13 (by decide)
  have e14 : w.cell? ⟨14, 0, none⟩ = some (.iface 183 (.pointer (some (a 15)))) := h.cell 14 (by decide)
  have e15 : w.cell? ⟨15, 0, none⟩ = some (.iface 183 (.pointer (some (a 16)))) := h.cell 15 (by decide)
  have e16 : w.cell? ⟨16, 0, none⟩ = some (.iface 183 (.pointer (some (a 17)))) := h.cell 16 (by decide)
  have e17 : w.cell? ⟨17, 0, none⟩ = some (.iface 183 (.pointer (some (a 18)))) := h.cell 17 (by decide)
  have e18 : w.cell? ⟨18, 0, none⟩ = some (.iface 183 (.pointer (some (a 19)))) := h.cell 18 (by decide)
  have e19 : w.cell? ⟨19, 0, none⟩ = some (.iface 183 (.pointer (some (a 20)))) := h.cell 19 (by decide)
  have HE := Lib.hid h
  have HF := Lib.hid hf
  clear h hf
  go_enter Tryz.func10, Tryz.ntmps10
  go_wp2_with fail
  go_loop [28] (fun i => ∃ k : Nat, k < c ∧ i = .int .i64 k) (fun i => 20 - (intOf i).toNat)
  case atStart => exact ⟨0, by omega, rfl⟩
  case round =>
    obtain ⟨k, hk, rfl⟩ := hrel
    have hk20 : (k : Int) < 20 := by omega
    have hidx := run_index_part (P := Tryz.prog) w 63 25 20 (errArr a) k _ _ Tryz.underlying63 (by kernel_rfl) Tryz.underlying25 rfl (by omega) (errArr_get a k (by omega))
    unfold errArr at hidx
    have HK := Lib.hid (is_fault w a HE.out c (k + 1) hc1 hc (by omega) (by omega) fb name HF.out)
    by_cases hck : c = k + 1
    · have hdec : decide (c = k + 1) = true := by simpa using hck
      rw [hdec] at HK
      have HCK := Lib.hid hck
      clear hck hdec
      go_wp2_with (go_at_call 28; refine HK.out.mono ?_; rintro e w1 ⟨rfl, rfl⟩; skip)
      go_ret
      exact ⟨by rw [HCK.out]; simp, rfl⟩
    · have hdec : decide (c = k + 1) = false := by simpa using hck
      rw [hdec] at HK
      have hk1 : k + 1 < c := by omega
      clear hck hdec
      go_wp2_with (go_at_call 28; refine HK.out.mono ?_; rintro e w1 ⟨rfl, rfl⟩; skip)
      go_round
      case rel => exact ⟨k + 1, hk1, by go_num⟩
      case measure => simp [intOf]; omega
end Go.Proofs.YtfaeigbfnjkojaaGreatDoor.Ei
