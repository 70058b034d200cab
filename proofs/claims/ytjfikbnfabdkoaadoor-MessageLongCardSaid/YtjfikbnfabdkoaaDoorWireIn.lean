/- wire.In: raw bytes and numbers. -/
import Derived.Test.YtjfikbnfabdkoaaDoorRegion
import Derived.Test.YtjfikbnfabdkoaaDoorConv
import Derived.Test.YtjfikbnfabdkoaaDoorOwn
import Derived.Test.YtjfikbnfabdkoaaDoorShelf
import Derived.WalkLawsBesides
import Derived.Lib.Hide
import Derived.WideLaws
set_option linter.unusedVariables false
set_option linter.unusedSimpArgs false
namespace Go.Proofs.YtjfikbnfabdkoaaDoor.Wi
open Go.RowKit Go.Proofs.YtjfikbnfabdkoaaDoor.Ow
/-- block b is an In with the text s and the error e -/
def IsIn (w : World) (b : Nat) (s : ByteArray) (e : Value) : Prop := Rg.Blk w b 152 #[.string s, e]
theorem blk_set {w : World} {b T : Nat} {cs : Array Value} (h : Rg.Blk w b T cs) (j : Nat) (v : Value) : Rg.Blk (w.setCell ⟨b, j, none⟩ v) b T (cs.setIfInBounds j v) := by
  unfold Rg.Blk at *
  rw [heap_setCell_same w b j _ _ _ h]
theorem grown_set {a w : World} {b : Nat} (h : a.grownBy w (some b)) (j : Nat) (v : Value) : a.grownBy (w.setCell ⟨b, j, none⟩ v) (some b) :=
  ⟨h.os, h.tape, h.output, by simpa [World.setCell] using h.size, fun k hk hne => (Below.heap_setCell w ⟨b, j, none⟩ v k (fun e => hne (congrArg some e))).trans (h.block k hk hne)⟩
theorem grown_below {a w b' : World} {row : Option Nat} (h : a.grownBy w row) (hb : Below w.heap.size w b') : a.grownBy b' row :=
  ⟨hb.os.trans h.os, hb.tape.trans h.tape, hb.output.trans h.output, Nat.le_trans h.size hb.size, fun k hk hne => (hb.block k (Nat.lt_of_lt_of_le hk h.size)).trans (h.block k hk hne)⟩
/-- the errors' values, by their numbers -/
structure Errs (w : World) (E : Nat → Value) : Prop where
  is : ∀ k, k ≠ 0 → ∃ a, E k = .iface 189 (.pointer (some a))
  big : w.cell? ⟨4, 0, none⟩ = some (E 4)
  form : w.cell? ⟨3, 0, none⟩ = some (E 3)
  stop : w.cell? ⟨2, 0, none⟩ = some (E 2)
/-- a block behind the errors' variables -/
def Gl (b : Nat) : Prop := 4 < b ∧ 3 < b ∧ 2 < b
theorem Errs.gl {w : World} {E : Nat → Value} (h : Errs w E) {b : Nat} (hb : w.heap.size ≤ b) : Gl b := by
  have h1 := World.block_lt_of_cell? w _ h.big
  have h2 := World.block_lt_of_cell? w _ h.form
  have h3 := World.block_lt_of_cell? w _ h.stop
  simp only at h1 h2 h3
  exact ⟨by omega, by omega, by omega⟩
def evV (E : Nat → Value) (c : Nat) : Value := if c = 0 then .nilIface else E c
theorem Errs.keep {w w' : World} {E : Nat → Value} {b : Nat} (h : Errs w E) (hg : w.grownBy w' (some b)) (hb : Gl b) : Errs w' E :=
  ⟨h.is, hg.cell h.big (by intro e; have := hb.1; simp at e; omega), hg.cell h.form (by intro e; have := hb.2.1; simp at e; omega), hg.cell h.stop (by intro e; have := hb.2.2; simp at e; omega)⟩
theorem Errs.below {w w' : World} {E : Nat → Value} (h : Errs w E) (hb : Below w.heap.size w w') : Errs w' E :=
  ⟨h.is, (hb.cell (World.block_lt_of_cell? w _ h.big)).trans h.big, (hb.cell (World.block_lt_of_cell? w _ h.form)).trans h.form, (hb.cell (World.block_lt_of_cell? w _ h.stop)).trans h.stop⟩
theorem evV_zero (E : Nat → Value) : evV E 0 = .nilIface := rfl
theorem evV_pos (E : Nat → Value) {c : Nat} (h : c ≠ 0) : evV E c = E c := if_neg h
/-- fail at an In that has no error yet -/
theorem fail_none (w : World) (b : Nat) (s : ByteArray) (t : TypeId) (x : Value) (h : IsIn w b s .nilIface) :
    Calls Tryd.prog 93 #[.pointer (some ⟨b, 0, none⟩), .iface t x] w fun e w' => e = .returned (.tuple #[]) ∧ IsIn w' b ⟨#[]⟩ (.iface t x) ∧ w.grownBy w' (some b) := by
  have h0 := h.cell 0 (v := .string s) rfl
  have h1 := h.cell 1 (v := .nilIface) rfl
  have f0 := h.frozen 0
  have f1 := h.frozen 1
  have HF := Lib.hid (show IsIn ((w.setCell ⟨b, 0, none⟩ (.string ⟨#[]⟩)).setCell ⟨b, 1, none⟩ (.iface t x)) b ⟨#[]⟩ (.iface t x) from blk_set (blk_set h 0 _) 1 _)
  have HG := Lib.hid (show w.grownBy ((w.setCell ⟨b, 0, none⟩ (.string ⟨#[]⟩)).setCell ⟨b, 1, none⟩ (.iface t x)) (some b) from grown_set (grown_set (World.grownBy.refl w _) 0 _) 1 _)
  clear h
  go_enter Tryd.func93, Tryd.ntmps93
  go_wp2
  go_end0
  exact ⟨rfl, HF.out, HG.out⟩
theorem fail_some (w : World) (b : Nat) (s : ByteArray) (t : TypeId) (x v : Value) (h : IsIn w b s (.iface t x)) :
    Calls Tryd.prog 93 #[.pointer (some ⟨b, 0, none⟩), v] w fun e w' => e = .returned (.tuple #[]) ∧ w = w' := by
  have h1 := h.cell 1 (v := .iface t x) rfl
  clear h
  go_enter Tryd.func93, Tryd.ntmps93
  go_wp2
  go_end0
  exact ⟨rfl, rfl⟩
/-- what Raw gives, and what it leaves -/
def rawR (s : ByteArray) (c : Nat) (n : Nat) : ByteArray := if c = 0 ∧ n ≤ s.size then s.extract 0 n else ⟨#[]⟩
def rawS (s : ByteArray) (c : Nat) (n : Nat) : ByteArray := if c = 0 then (if n ≤ s.size then s.extract n s.size else ⟨#[]⟩) else s
def rawC (s : ByteArray) (c : Nat) (n : Nat) : Nat := if c = 0 then (if n ≤ s.size then 0 else 2) else c
/-- an In call's answer: the value, the text that is left, the error's number -/
def Gave (E : Nat → Value) (b : Nat) (w : World) (v : Value) (s : ByteArray) (c : Nat) (e : Ending) (w' : World) : Prop := e = .returned v ∧ IsIn w' b s (evV E c) ∧ w.grownBy w' (some b)
set_option maxHeartbeats 1000000 in
theorem InRaw_any (w : World) (E : Nat → Value) (b : Nat) (s : ByteArray) (c : Nat) (n : Int) (hn : n ≤ 9223372036854775807) (hs : s.size ≤ 9223372036854775807) (hE : Errs w E) (hb : Gl b) (h : IsIn w b s (evV E c)) :
    Calls Tryd.prog 69 #[.pointer (some ⟨b, 0, none⟩), .int .i64 n] w (Gave E b w (.string (rawR s c n.toNat)) (rawS s c n.toNat) (rawC s c n.toNat)) := by
  have H := Lib.hid h
  have HE := Lib.hid hE
  obtain ⟨m, hm⟩ : ∃ m : Nat, max n 0 = (m : Int) := ⟨n.toNat, by omega⟩
  have hm2 : n.toNat = m := by omega
  rw [hm2]
  have hml : m ≤ 9223372036854775807 := by omega
  by_cases hc : c = 0
  · subst hc
    have h0 := H.out.cell 0 (v := .string s) rfl
    have h1 : w.cell? ⟨b, 1, none⟩ = some .nilIface := H.out.cell 1 rfl
    by_cases hms : m ≤ s.size
    · have HR := Lib.hid (show rawR s 0 m = s.extract 0 m ∧ rawS s 0 m = s.extract m s.size ∧ rawC s 0 m = 0 from ⟨if_pos ⟨rfl, hms⟩, by unfold rawS; rw [if_pos rfl, if_pos hms], by unfold rawC; rw [if_pos rfl, if_pos hms]⟩)
      have f0 := H.out.frozen 0
      have HF := Lib.hid (show IsIn (w.setCell ⟨b, 0, none⟩ (.string (s.extract m s.size))) b (s.extract m s.size) .nilIface from blk_set H.out 0 _)
      have HG := Lib.hid (show w.grownBy (w.setCell ⟨b, 0, none⟩ (.string (s.extract m s.size))) (some b) from grown_set (World.grownBy.refl w _) 0 _)
      have hd : (m : Int) ≤ s.size := by omega
      clear h hE hm2 hn
      go_enter Tryd.func69, Tryd.ntmps69
      go_wp2
      go_ret
      exact ⟨by rw [HR.out.1]; rfl, by rw [HR.out.2.1, HR.out.2.2]; exact HF.out, HG.out⟩
    · have HR := Lib.hid (show rawR s 0 m = ⟨#[]⟩ ∧ rawS s 0 m = ⟨#[]⟩ ∧ rawC s 0 m = 2 from ⟨if_neg fun e => hms e.2, by unfold rawS; rw [if_pos rfl, if_neg hms], by unfold rawC; rw [if_pos rfl, if_neg hms]⟩)
      obtain ⟨a2, ha2⟩ := hE.is 2 (by decide)
      have hst := hE.stop
      rw [ha2] at hst
      have HA := Lib.hid ha2
      have hd : ¬ (m : Int) ≤ s.size := by omega
      have hd2 : (s.size : Int) < m := by omega
      clear h hE hm2 hn ha2 hms
      go_enter Tryd.func69, Tryd.ntmps69
      go_wp2_with (go_at_call 93; refine (fail_none w b s _ _ H.out).mono ?_; rintro e w1 ⟨rfl, h1', hg1⟩; skip; have H1 := Lib.hid h1'; have HG := Lib.hid hg1; clear h1' hg1)
      go_ret
      refine ⟨by rw [HR.out.1]; rfl, ?_, HG.out⟩
      rw [HR.out.2.1, HR.out.2.2]
      have := H1.out
      rw [← HA.out] at this
      exact this
  · have HR := Lib.hid (show rawR s c m = ⟨#[]⟩ ∧ rawS s c m = s ∧ rawC s c m = c from ⟨if_neg fun e => hc e.1, if_neg hc, if_neg hc⟩)
    obtain ⟨a2, ha2⟩ := hE.is 2 (by decide)
    have hst := hE.stop
    rw [ha2] at hst
    obtain ⟨ac, hac⟩ := hE.is c hc
    have hev : evV E c = .iface 189 (.pointer (some ac)) := by rw [evV_pos E hc, hac]
    rw [hev] at h
    have H' := Lib.hid h
    have h1 : w.cell? ⟨b, 1, none⟩ = some (.iface 189 (.pointer (some ac))) := h.cell 1 rfl
    clear h hE hm2 hn ha2 hac hev hc
    go_enter Tryd.func69, Tryd.ntmps69
    go_wp2_with (go_at_call 93; refine (fail_some w b s _ _ _ H'.out).mono ?_; rintro e w1 ⟨rfl, rfl⟩; skip)
    go_ret
    exact ⟨by rw [HR.out.1]; rfl, by rw [HR.out.2.1, HR.out.2.2]; exact H.out, World.grownBy.refl _ _⟩
end Go.Proofs.YtjfikbnfabdkoaaDoor.Wi
