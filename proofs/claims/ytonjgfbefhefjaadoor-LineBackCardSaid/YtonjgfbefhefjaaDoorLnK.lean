/- Line's Check. -/
import Derived.Test.YtonjgfbefhefjaaDoorLnP4
set_option linter.unusedVariables false
set_option linter.unusedSimpArgs false
namespace Go.Proofs.YtonjgfbefhefjaaDoor.Ln
open Go Go.RowKit Go.Proofs.YtonjgfbefhefjaaDoor.Ow
/-- a command by value, as it reads -/
structure CVal (w : World) (c : Cm) (A1 : Option Addr) (k1 : Nat) (A2 : Option Addr) (k2 : Nat) : Prop where
  n : Rd w A1 (c.names.map encS)
  k : Rd w A2 (c.nums.map (Value.int .i64))
  nl : c.names.length ≤ k1
  kl : c.nums.length ≤ k2
  nb : c.names.length ≤ 100000
  kb : c.nums.length ≤ 100000
  ns : ∀ x ∈ c.names, x.length ≤ 100000
  ws : c.word.length ≤ 100000
  ts : c.text.length ≤ 100000
  kw : ∀ k ∈ c.nums, -9223372036854775808 ≤ k ∧ k ≤ 9223372036854775807
theorem CVal.below {w w' : World} {c : Cm} {A1 A2 : Option Addr} {k1 k2 : Nat} (h : CVal w c A1 k1 A2 k2) (hb : Below w.heap.size w w') : CVal w' c A1 k1 A2 k2 :=
  ⟨h.n.below hb, h.k.below hb, h.nl, h.kl, h.nb, h.kb, h.ns, h.ws, h.ts, h.kw⟩
def cC (c : Cm) (A1 : Option Addr) (k1 : Nat) (A2 : Option Addr) (k2 : Nat) : Array Value := #[.string (strB c.word), .slice A1 c.names.length k1, .slice A2 c.nums.length k2, .string (strB c.text)]
theorem Count_any (sh : List UInt8) (c : UInt8) (w : World) :
    Calls Tryd.prog 27 #[.string (strB sh), .string ⟨#[c]⟩] w fun e w' => e = .returned (.int .i64 (sh.count c : Nat)) ∧ w' = w := Tryd.strings_Count_one (strB sh) c w
theorem chk_none {c : Cm} (h : shp c.word = none) : chk c = 20 := by unfold chk; rw [h]
theorem chk_bad {c : Cm} {sh : List UInt8} (h : shp c.word = some sh) (hn : ¬ ok sh c) : chk c = 3 := by unfold chk; rw [h]; simp only; rw [if_neg hn]
theorem chk_ok {c : Cm} {sh : List UInt8} (h : shp c.word = some sh) (hn : ok sh c) : chk c = 0 := by unfold chk; rw [h]; simp only; rw [if_pos hn]
theorem cnt_tab : ∀ r ∈ tab, r.2.count 110 ≤ 10 ∧ r.2.count 42 ≤ 10 ∧ r.2.count 35 ≤ 10 ∧ r.2.count 116 ≤ 10 := by decide +kernel
set_option maxRecDepth 20000 in
set_option maxHeartbeats 4000000 in
theorem Check_none (w : World) (a : Nat → Addr) (hX : Ctx w a) (c : Cm) (A1 A2 : Option Addr) (k1 k2 : Nat) (hsh : shp c.word = none) :
    Calls Tryd.prog 13 #[.agg #[.string (strB c.word), .slice A1 c.names.length k1, .slice A2 c.nums.length k2, .string (strB c.text)]] w fun e w' => e = .returned (Ei.evA a (chk c)) ∧ Below w.heap.size w w' := by
  have HX := Lib.hid hX
  have HQ := Lib.hid (chk_none hsh)
  have HSH := Lib.hid (show ∀ W : World, TabR W → Calls Tryd.prog 17 #[.string (strB c.word)] W fun e w' => e = .returned (.tuple #[.string ⟨#[]⟩, .bool false]) ∧ Below W.heap.size W w' from fun W hT => by
    have := Shape_any (strB c.word) W hT
    rw [show shpV (strB c.word).data.toList = ([], false) by rw [show (strB c.word).data.toList = c.word from rfl]; unfold shpV; rw [hsh]] at this
    exact this)
  clear hX hsh
  have HBX := Lib.hid (show Below w.heap.size w (w.alloc (.cells #[.string (strB c.word), .slice A1 c.names.length k1, .slice A2 c.nums.length k2, .string (strB c.text)] 27)) from (Below.refl _ _).alloc (Nat.le_refl _) _)
  go_enter Tryd.func13, Tryd.ntmps13
  go_wp2_with (go_at_call 17; refine (HSH.out _ (HX.out.below HBX.out).tabR).mono ?_; rintro e w1 ⟨rfl, hb1⟩; skip; have HB1 := Lib.hid (HBX.out.trans (Below.mono hb1 HBX.out.size)); have ec : w1.cell? ⟨1, 0, none⟩ = some (.iface 124 (.pointer (some (a 20)))) := (HX.out.errs.below HB1.out).cell 19 (by decide); clear hb1)
  go_ret
  exact ⟨by rw [HQ.out]; rfl, HB1.out⟩
end Go.Proofs.YtonjgfbefhefjaaDoor.Ln
