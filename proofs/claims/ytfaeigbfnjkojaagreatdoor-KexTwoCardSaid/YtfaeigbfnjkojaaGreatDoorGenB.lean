/- strings.Builder inside wire.Out, over this program: copyCheck, Len, WriteByte, WriteString. The walks are the shelf's worked ones, turned to this program's own numbers (its copyCheck ends in a panic that the loader refuses, so that the shelf's text does not lay them). A number's bytes, the highest first. Slices of structs: append; what a write leaves of other rows. -/
import Derived.Test.YtfaeigbfnjkojaaGreatDoorRows
import Derived.Lib.Strings
import Derived.Lib.Slices
import Derived.Lib.Walk
import Derived.Lib.Builder
import Derived.Lib.FrozenHead
import Derived.Lib.Hide
import Derived.RegionTactic
import Derived.ChangeAlike
import Derived.Lib.AppendStr
import Derived.Lib.UnsafeStr
import Derived.Lib.MakeNoZero
import Derived.WalkKit
import Derived.Laws.Externs
import Derived.Laws.IdiomCopy
import Derived.Laws.BitsLemmas
import Derived.Test.YtfaeigbfnjkojaaGreatDoorGenA
import Derived.Lib.OwnKind
set_option linter.unusedVariables false
set_option linter.unusedSimpArgs false
namespace Go.Proofs.YtfaeigbfnjkojaaGreatDoor.Bo
open Go.RowKit
theorem sizeB : (Tryz.prog.info? 67).map (·.size) = some 2 := by kernel_rfl
theorem liesB : liesAt Tryz.prog Tryz.prog.depth 69 (2 / Tryz.prog.cellsOf 69) 0 67 1 = true := by kernel_rfl
theorem infoByte : (Tryz.prog.info? 5).map (fun i => (i.zero, i.size, i.bytes)) = some (some (.int .u8 0), 1, 1) := by kernel_rfl

set_option maxHeartbeats 1000000 in
set_option maxRecDepth 100000 in
theorem copyCheck_used (b : Nat) (w : World) (h0 : w.cell? ⟨b, 0, none⟩ = some (.pointer (some ⟨b, 0, none⟩))) :
    Calls Tryz.prog 67 #[.pointer (some ⟨b, 0, none⟩)] w fun e w' => e = .returned (.tuple #[]) ∧ w' = w := by
  obtain ⟨j, hj, _⟩ := Option.map_eq_some_iff.1 sizeB
  go_enter Tryz.func67, Tryz.ntmps67
  go_wp2
  rw [Lib.run_neq_ptr_same w _ Tryz.underlying65 hj]
  go_wp2
  go_end0
  exact ⟨rfl, rfl⟩
set_option maxHeartbeats 1000000 in
set_option maxRecDepth 100000 in
theorem copyCheck_fresh (b : Nat) (w : World) (h0 : w.cell? ⟨b, 0, none⟩ = some (.pointer none)) (hsh : w.shape? b = some (69, 2)) (hfz : w.frozen? ⟨b, 0, none⟩ = false) :
    Calls Tryz.prog 67 #[.pointer (some ⟨b, 0, none⟩)] w fun e w' => e = .returned (.tuple #[]) ∧ w' = w.setCell ⟨b, 0, none⟩ (.pointer (some ⟨b, 0, none⟩)) := by
  obtain ⟨j, hj, hjs⟩ := Option.map_eq_some_iff.1 sizeB
  go_enter Tryz.func67, Tryz.ntmps67
  go_wp2
  rw [Lib.run_to_unsafe w ⟨b, 0, none⟩ Tryz.underlying65 Tryz.underlying108 hj (by rw [hjs]; decide) hsh (Nat.zero_lt_succ 1)]
  simp only [Result.andThen]
  rw [Oper.upon_value]
  go_wp2
  rw [run_callFunc_extern Tryz.func81 (by kernel_rfl) (by kernel_rfl) (by kernel_rfl) (e := Extern.AbiNoEscape.same) (by kernel_rfl)]
  rw [Lib.run_noEscape]
  simp only [Result.andThen]
  rw [Oper.upon_value]
  go_wp2
  rw [Lib.run_from_unsafe w ⟨b, 0, none⟩ Tryz.underlying108 Tryz.underlying65 hj hsh liesB]
  simp only [Result.andThen]
  rw [Oper.upon_value]
  go_wp2
  go_end0
  exact ⟨rfl, rfl⟩
/-- no block has turned, but b and rows of bytes -/
def KeptO (b : Nat) (w w' : World) : Prop := ∀ (k : Nat) cs T fz, w.heap[k]? = some (.cells cs T fz) → T ≠ 5 → k ≠ b → w'.heap[k]? = some (.cells cs T fz)
/-- below B nothing has turned, above it only b and rows of bytes -/
structure Calm (B b : Nat) (w w' : World) : Prop where
  below : Below B w w'
  kept : KeptO b w w'
namespace Calm
theorem refl (B b : Nat) (w : World) : Calm B b w w := ⟨Below.refl _ _, fun _ _ _ _ h _ _ => h⟩
theorem trans {B b : Nat} {w w' w'' : World} (h : Calm B b w w') (h' : Calm B b w' w'') : Calm B b w w'' := ⟨h.below.trans h'.below, fun k cs T fz hk hT hb => h'.kept k cs T fz (h.kept k cs T fz hk hT hb) hT hb⟩
theorem of {B b : Nat} {w w' : World} (h : Below w.heap.size w w') (hB : B ≤ w.heap.size) : Calm B b w w' := ⟨h.mono hB, fun k _ _ _ hk _ _ => (h.block k (Array.getElem?_eq_some_iff.1 hk).1).trans hk⟩
theorem size {B b : Nat} {w w' : World} (h : Calm B b w w') : w.heap.size ≤ w'.heap.size := h.below.size
theorem setCell {B b : Nat} (w : World) (hB : B ≤ b) (j : Nat) (v : Value) : Calm B b w (w.setCell ⟨b, j, none⟩ v) :=
  ⟨(Below.refl B w).setCell (p := ⟨b, j, none⟩) hB _, fun k cs T fz hk _ hb => by
    simp only [World.setCell, Array.getElem?_modify]
    rw [if_neg (fun e => hb e.symm)]; exact hk⟩
end Calm
theorem owns_u8 {w : World} {B n : Nat} {v : Value} {bs : List Value} (h : w.ownsRow B 5 1 v n bs) {g : Nat} (hg : v.ownBlock = some g) : ∃ cur fz, w.heap[g]? = some (.cells cur 5 fz) := by
  rcases h.2 with ⟨hv, _⟩ | ⟨g', cap, cur, hv, _, hh, _⟩
  · rw [hv] at hg; simp [Value.ownBlock] at hg
  · rw [hv] at hg
    simp [Value.ownBlock] at hg
    subst hg
    exact ⟨_, _, hh⟩
/-- a row of bytes that grows -/
theorem Calm.grown {B b n : Nat} {w w1 w2 : World} {v : Value} {bs : List Value} (h : Calm B b w w1) (hg : w1.grownBy w2 v.ownBlock) (hB : B ≤ w1.heap.size) (ho : w1.ownsRow B 5 1 v n bs) : Calm B b w w2 :=
  ⟨h.below.grown hg hB (fun k hk => (ho.lt k hk).1), fun k cs T fz hk hT hb => by
    have h1 := h.kept k cs T fz hk hT hb
    refine (hg.block k (Array.getElem?_eq_some_iff.1 h1).1 ?_).trans h1
    intro e
    obtain ⟨cur, fz', hc⟩ := owns_u8 ho e.symm
    rw [h1] at hc
    simp only [Option.some.injEq, Obj.cells.injEq] at hc
    exact hT hc.2.1⟩
theorem copyCheck (B b : Nat) (bs : List Value) (w : World) (h : Lib.IsBuilder 69 5 B b bs w) :
    Calls Tryz.prog 67 #[.pointer (some ⟨b, 0, none⟩)] w fun e w' => e = .returned (.tuple #[]) ∧ (Lib.BuilderAt 69 5 B b (.pointer (some ⟨b, 0, none⟩)) bs w' ∧ Calm B b w w') := by
  rcases h with h | h
  · refine (copyCheck_fresh b w h.cell0 h.shape h.frozen0).mono ?_
    rintro e w' ⟨rfl, rfl⟩
    exact ⟨rfl, h.used _, Calm.setCell w h.1 0 _⟩
  · refine (copyCheck_used b w h.cell0).mono ?_
    rintro e w' ⟨rfl, rfl⟩
    exact ⟨rfl, h, Calm.refl B b _⟩
set_option maxHeartbeats 2000000 in
set_option maxRecDepth 100000 in
theorem writeByte (B b : Nat) (bs : List Value) (c : Int) (w : World) (h : Lib.IsBuilder 69 5 B b bs w) (hlen : bs.length + 1 ≤ 140737488355328) (hBw : B ≤ w.heap.size) :
    Calls Tryz.prog 71 #[.pointer (some ⟨b, 0, none⟩), .int .u8 c] w fun e w' => e = .returned .nilIface ∧ (Lib.BuilderAt 69 5 B b (.pointer (some ⟨b, 0, none⟩)) (bs ++ [.int .u8 c]) w' ∧ Calm B b w w') := by
  obtain ⟨i0, hi, hz0, hz1, hz2⟩ := info_parts infoByte
  go_enter Tryz.func71, Tryz.ntmps71
  go_wp2_with (go_at_call 67; refine (copyCheck B b bs _ h).mono ?_)
  rintro e w1 ⟨rfl, h1, hb1⟩
  obtain ⟨hB, v, hbk, hown, hne⟩ := h1
  have c0 : w1.cell? ⟨b, 0, none⟩ = some (.pointer (some ⟨b, 0, none⟩)) := by rw [Lib.cell_of_heap hbk]; rfl
  have c1 : w1.cell? ⟨b, 1, none⟩ = some v := by rw [Lib.cell_of_heap hbk]; rfl
  go_wp2_with (at_builtin; refine wpList_append_own _ rfl _ _ 36 rfl B 5 i0 (.int .u8 0) 1 1 Tryz.underlying36 hi hz0 hz1 hz2 rfl (by decide) _ _ _ rfl (hown.alloc _) ⟨w1.heap.size, 0, none⟩ 1 1 [.int .u8 c] rfl rfl ?c1 ?c2 ?c3 ?c4 ?c5 ?_)
  case c1 =>
    intro j u hj
    match j, hj with
    | 0, hj => simp at hj; subst hj; simp [Addr.add]
  case c2 => intro u hu; simp at hu; subst hu; rfl
  case c3 => unfold maxLen; omega
  case c4 => omega
  case c5 => have := hb1.size; simp; omega
  intro v' w2 hown' hgrow _
  have hlt : b < w1.heap.size := by
    rcases Nat.lt_or_ge b w1.heap.size with h' | h'
    · exact h'
    · simp [Array.getElem?_eq_none h'] at hbk
  have hb2 : w2.heap[b]? = some (.cells #[.pointer (some ⟨b, 0, none⟩), v] 69 (0, 0)) := by
    rw [hgrow.block b (by simp; omega) (fun e => hne e.symm), Lib.alloc_old w1 _ b hlt]
    exact hbk
  have d0 : w2.cell? ⟨b, 0, none⟩ = some (.pointer (some ⟨b, 0, none⟩)) := by rw [Lib.cell_of_heap hb2]; rfl
  have d1 : w2.cell? ⟨b, 1, none⟩ = some v := by rw [Lib.cell_of_heap hb2]; rfl
  have f1 : w2.frozen? ⟨b, 1, none⟩ = false := Lib.frozen_of_heap hb2 1
  obtain ⟨g, cap, rfl⟩ : ∃ g cap, v' = .slice (some ⟨g, 0, none⟩) (bs.length + 1) cap := by
    rcases hown'.2 with ⟨_, h0⟩ | ⟨g, cap, cur, hv, _⟩
    · omega
    · exact ⟨g, cap, hv⟩
  go_wp2
  go_ret
  refine ⟨rfl, ?_, ?_⟩
  · exact Lib.BuilderAt.put (T := 69) (e := 5) hB hb2 (bs' := bs ++ [.int .u8 c]) (by simpa using hown') (by decide)
  · exact ((hb1.trans (Calm.of ((Below.refl _ _).alloc (Nat.le_refl _) _) (by have := hb1.size; omega))).grown hgrow (by have := hb1.size; simp; omega) (hown.alloc _)).trans (Calm.setCell _ hB 1 _)
set_option maxHeartbeats 2000000 in
set_option maxRecDepth 100000 in
theorem writeString (B b : Nat) (bs : List Value) (s : ByteArray) (w : World) (h : Lib.IsBuilder 69 5 B b bs w) (hlen : bs.length + s.size ≤ 140737488355328) (hBw : B ≤ w.heap.size) :
    Calls Tryz.prog 52 #[.pointer (some ⟨b, 0, none⟩), .string s] w fun e w' => e = .returned (.tuple #[.int .i64 s.size, .nilIface]) ∧ (Lib.BuilderAt 69 5 B b (.pointer (some ⟨b, 0, none⟩)) (bs ++ Lib.strCells s) w' ∧ Calm B b w w') := by
  obtain ⟨i0, hi, hz0, hz1, hz2⟩ := info_parts infoByte
  go_enter Tryz.func52, Tryz.ntmps52
  go_wp2_with (go_at_call 67; refine (copyCheck B b bs _ h).mono ?_)
  rintro e w1 ⟨rfl, h1, hb1⟩
  obtain ⟨hB, v, hbk, hown, hne⟩ := h1
  have c0 : w1.cell? ⟨b, 0, none⟩ = some (.pointer (some ⟨b, 0, none⟩)) := by rw [Lib.cell_of_heap hbk]; rfl
  have c1 : w1.cell? ⟨b, 1, none⟩ = some v := by rw [Lib.cell_of_heap hbk]; rfl
  go_wp2_with (at_builtin; refine Lib.wpList_append_own_string _ rfl _ _ 36 9 rfl B 5 i0 Tryz.underlying36 Tryz.underlying9 hi hz0 hz1 hz2 _ _ _ rfl hown s rfl ?c3 ?c4 ?c5 ?_)
  case c3 => unfold maxLen; omega
  case c4 => omega
  case c5 => have := hb1.size; omega
  intro v' w2 hown' hgrow _
  have hlt : b < w1.heap.size := by
    rcases Nat.lt_or_ge b w1.heap.size with h' | h'
    · exact h'
    · simp [Array.getElem?_eq_none h'] at hbk
  have hb2 : w2.heap[b]? = some (.cells #[.pointer (some ⟨b, 0, none⟩), v] 69 (0, 0)) := by
    rw [hgrow.block b hlt (fun e => hne e.symm)]
    exact hbk
  have d0 : w2.cell? ⟨b, 0, none⟩ = some (.pointer (some ⟨b, 0, none⟩)) := by rw [Lib.cell_of_heap hb2]; rfl
  have d1 : w2.cell? ⟨b, 1, none⟩ = some v := by rw [Lib.cell_of_heap hb2]; rfl
  have f1 : w2.frozen? ⟨b, 1, none⟩ = false := Lib.frozen_of_heap hb2 1
  obtain ⟨ao, n', cap, rfl⟩ : ∃ ao n' cap, v' = .slice ao n' cap := by
    rcases hown'.2 with ⟨hv, _⟩ | ⟨g, cap, cur, hv, _⟩
    · exact ⟨_, _, _, hv⟩
    · exact ⟨_, _, _, hv⟩
  go_wp2
  go_ret2
  refine ⟨rfl, ?_, ?_⟩
  · exact Lib.BuilderAt.put (T := 69) (e := 5) hB hb2 (bs' := bs ++ Lib.strCells s) (by simpa [Lib.strCells_length] using hown') (by decide)
  · exact (hb1.grown hgrow (by have := hb1.size; omega) hown).trans (Calm.setCell _ hB 1 _)
/-- a builder just made -/
theorem fresh (w : World) : Lib.IsBuilder 69 5 w.heap.size w.heap.size [] (w.alloc (.cells #[.pointer none, .slice none 0 0] 69)) :=
  .inl ⟨Nat.le_refl _, _, heap_alloc_new _ _, World.ownsRow_nil _ _ _ _, by simp [Value.ownBlock]⟩
theorem cellsB : Tryz.prog.cellsOf 5 = 1 := by kernel_rfl
/-- no block but a row of bytes has turned -/
def Kept (w w' : World) : Prop := ∀ (k : Nat) cs T fz, w.heap[k]? = some (.cells cs T fz) → T ≠ 5 → w'.heap[k]? = some (.cells cs T fz)
theorem kept_of_block {w w' : World} (h : ∀ k, k < w.heap.size → w'.heap[k]? = w.heap[k]?) : Kept w w' := fun k cs T fz hk _ => (h k (Array.getElem?_eq_some_iff.1 hk).1).trans hk
theorem kept_freeze {w : World} {g n : Nat} {cur : Array Value} {fz : Nat × Nat} (hg : w.heap[g]? = some (.cells cur 5 fz)) : Kept w (w.drew.freeze ⟨g, 0, none⟩ n) := by
  intro k cs T fz' hk hT
  have hne : g ≠ k := by
    rintro rfl
    rw [hg] at hk
    simp only [Option.some.injEq, Obj.cells.injEq] at hk
    exact hT hk.2.1.symm
  unfold World.freeze
  split
  · exact hk
  · simp only [Array.getElem?_modify]
    rw [if_neg hne]
    exact hk
/-- a builder that may have been read -/
def Read (B b : Nat) (l : List UInt8) (w : World) : Prop := Lib.IsBuilderF 69 5 B b (Lib.byteCells l) w
theorem Read.of {B b : Nat} {l : List UInt8} {w : World} (h : Lib.IsBuilder 69 5 B b (Lib.byteCells l) w) : Read B b l w := Lib.IsBuilderF.of h
theorem Read.at_ {B b : Nat} {l : List UInt8} {w : World} (h : Read B b l w) : ∃ p, (p = .pointer none ∨ p = .pointer (some ⟨b, 0, none⟩)) ∧ Lib.BuilderAtF 69 5 B b p (Lib.byteCells l) w := by
  rcases h with h | h
  · exact ⟨_, .inl rfl, h⟩
  · exact ⟨_, .inr rfl, h⟩
theorem Read.mk {B b : Nat} {l : List UInt8} {w : World} {p : Value} (hp : p = .pointer none ∨ p = .pointer (some ⟨b, 0, none⟩)) (h : Lib.BuilderAtF 69 5 B b p (Lib.byteCells l) w) : Read B b l w := by
  rcases hp with rfl | rfl
  · exact .inl h
  · exact .inr h
theorem Read.below {B b : Nat} {l : List UInt8} {w w' : World} (h : Read B b l w) (hb : Below w.heap.size w w') : Read B b l w' := by
  obtain ⟨p, hp, hA⟩ := h.at_
  have hlt := hA.lt
  obtain ⟨hB, v, hbk, hown, hne⟩ := hA
  refine Read.mk hp ⟨hB, v, (hb.block b hlt).trans hbk, ⟨hown.1, ?_⟩, hne⟩
  rcases hown.2 with h1 | ⟨g', cap', cur', fz', hv, hb', hh, r⟩
  · exact .inl h1
  · exact .inr ⟨g', cap', cur', fz', hv, hb', (hb.block g' (Array.getElem?_eq_some_iff.1 hh).1).trans hh, r⟩
set_option maxHeartbeats 1000000 in
set_option maxRecDepth 100000 in
theorem string_some (B b : Nat) (l : List UInt8) (w : World) (h : Read B b l w) (h0 : l ≠ []) :
    Calls Tryz.prog 53 #[.pointer (some ⟨b, 0, none⟩)] w fun e w' => e = .returned (.string ⟨l.toArray⟩) ∧ Read B b l w' ∧ Below B w w' ∧ Kept w w' := by
  obtain ⟨p, hp, hA⟩ := h.at_
  have hAd : Lib.BuilderAtF 69 5 B b p (Lib.byteCells l) w.drew := hA
  obtain ⟨hB, v, hbk, hown, hne⟩ := hA
  rw [Lib.byteCells_length] at hown
  have hl0 : l.length ≠ 0 := by simpa using h0
  rcases hown.2 with ⟨_, hz⟩ | ⟨g, cap, cur, fz, rfl, hbg, hg, hfz, hnc, hcm, hcs, htake⟩
  · exact absurd hz hl0
  have hbd : w.drew.heap[b]? = some (.cells #[p, .slice (some ⟨g, 0, none⟩) l.length cap] 69 (0, 0)) := hbk
  have hgd : w.drew.heap[g]? = some (.cells cur 5 fz) := hg
  have c1 : w.drew.cell? ⟨b, 1, none⟩ = some (.slice (some ⟨g, 0, none⟩) l.length cap) := by rw [Lib.cell_of_heap hbd]; rfl
  have r1 : (Builtin.unsafeSliceData_ #[36] 137 #[.slice (some ⟨g, 0, none⟩) l.length cap]).run Tryz.prog w.drew = .ok (.pointer (some ⟨g, 0, none⟩)) w.drew := Lib.run_unsafeSliceData_row _ _ _ _ _ _ (by omega)
  have r2 : (Builtin.unsafeString_ #[137, 3] 9 #[.pointer (some ⟨g, 0, none⟩), .int .i64 l.length]).run Tryz.prog w.drew = .ok (.string ⟨l.toArray⟩) (w.drew.freeze ⟨g, 0, none⟩ l.length) :=
    Lib.run_unsafeString_row w.drew 137 3 9 5 Tryz.underlying137 cellsB g cur.size (by simp [World.shape?, hgd]) l h0 (by omega) (by unfold maxLen at hcm; omega)
      (fun j x hx => hown.cells (g := g) rfl j (.int .u8 x.toNat) (by simp [Lib.byteCells, hx]))
  have hF := hAd.froze (g := g) (cap := cap) (by rw [Lib.byteCells_length]; exact c1)
  rw [Lib.byteCells_length] at hF
  have HF := Lib.hid (Read.mk hp hF)
  have HK := Lib.hid (kept_freeze (n := l.length) hg)
  have HB := Lib.hid (Lib.below_freeze (Below.drew (Below.refl B w)) (p := ⟨g, 0, none⟩) hbg l.length)
  clear hF hAd hbd hgd hbk hown hne hg htake hp hcs hfz
  go_enter Tryz.func53, Tryz.ntmps53
  go_wp2
  go_region
  all_goals (go_wp2; go_ret; exact ⟨rfl, HF.out, HB.out, HK.out⟩)
set_option maxHeartbeats 1000000 in
set_option maxRecDepth 100000 in
theorem string_none (B b : Nat) (w : World) (h : Read B b [] w) (hBw : B ≤ w.heap.size) :
    Calls Tryz.prog 53 #[.pointer (some ⟨b, 0, none⟩)] w fun e w' => e = .returned (.string ⟨#[]⟩) ∧ Read B b [] w' ∧ Below B w w' ∧ Kept w w' := by
  obtain ⟨p, hp, hA⟩ := h.at_
  have HR := Lib.hid (show Read B b [] w.drew from h)
  have hlt := hA.lt
  obtain ⟨hB, v, hbk, hown, hne⟩ := hA
  have r2 : ∀ (W : World) (q : Option Addr), (Builtin.unsafeString_ #[137, 3] 9 #[.pointer q, .int .i64 0]).run Tryz.prog W = .ok (.string .empty) W := fun W q => Lib.run_unsafeString_none W _ _ _ q
  rcases hown.2 with ⟨rfl, _⟩ | ⟨g, cap, cur, fz, rfl, hbg, hg, _, _, _, _, _⟩
  · have hbd : w.drew.heap[b]? = some (.cells #[p, .slice none 0 0] 69 (0, 0)) := hbk
    have c1 : w.drew.cell? ⟨b, 1, none⟩ = some (.slice none 0 0) := by rw [Lib.cell_of_heap hbd]; rfl
    have r1 : (Builtin.unsafeSliceData_ #[36] 137 #[.slice none 0 0]).run Tryz.prog w.drew = .ok (.pointer none) w.drew := rfl
    clear hbd hbk hown hne hp h
    go_enter Tryz.func53, Tryz.ntmps53
    go_wp2
    go_region
    all_goals (go_wp2; go_ret; exact ⟨rfl, HR.out, Below.drew (Below.refl B w), kept_of_block fun _ _ => rfl⟩)
  · by_cases hc0 : cap = 0
    · subst hc0
      have hbd : w.drew.heap[b]? = some (.cells #[p, .slice (some ⟨g, 0, none⟩) 0 0] 69 (0, 0)) := hbk
      have hgd : w.drew.heap[g]? = some (.cells cur 5 fz) := hg
      have c1 : w.drew.cell? ⟨b, 1, none⟩ = some (.slice (some ⟨g, 0, none⟩) 0 0) := by rw [Lib.cell_of_heap hbd]; rfl
      have r1 : (Builtin.unsafeSliceData_ #[36] 137 #[.slice (some ⟨g, 0, none⟩) 0 0]).run Tryz.prog w.drew = .ok (.pointer (some ⟨w.drew.heap.size, 0, none⟩)) (w.drew.alloc (.view ⟨g, 0, none⟩ 5)) :=
        Lib.run_unsafeSliceData_zero w.drew _ _ 5 Tryz.underlying137 ⟨g, 0, none⟩ 0 (5, cur.size) (by simp [World.shape?, hgd])
      have c2 : (w.drew.alloc (.view ⟨g, 0, none⟩ 5)).cell? ⟨b, 1, none⟩ = some (.slice (some ⟨g, 0, none⟩) 0 0) := by
        have : (w.drew.alloc (.view ⟨g, 0, none⟩ 5)).heap[b]? = _ := (Lib.alloc_old w.drew _ b hlt).trans hbk
        rw [Lib.cell_of_heap this]; rfl
      have c3 : (w.alloc (.view ⟨g, 0, none⟩ 5)).drew.cell? ⟨b, 1, none⟩ = some (.slice (some ⟨g, 0, none⟩) 0 0) := c2
      have c0 : w.cell? ⟨b, 1, none⟩ = some (.slice (some ⟨g, 0, none⟩) 0 0) := c1
      have HV := Lib.hid (show Below w.heap.size w (w.alloc (.view ⟨g, 0, none⟩ 5)).drew from ((Below.refl _ _).alloc (Nat.le_refl _) _).drew)
      have HRV := Lib.hid (show Read B b [] (w.alloc (.view ⟨g, 0, none⟩ 5)).drew from Read.mk hp ⟨hB, _, (HV.out.block b hlt).trans hbk, by
        refine ⟨hown.1, ?_⟩
        rcases hown.2 with h1 | ⟨g', cap', cur', fz', hv, hb', hh, r⟩
        · exact .inl h1
        · exact .inr ⟨g', cap', cur', fz', hv, hb', (HV.out.block g' (Array.getElem?_eq_some_iff.1 hh).1).trans hh, r⟩, hne⟩)
      clear hbd hgd hbk hown hne hg hp h
      go_enter Tryz.func53, Tryz.ntmps53
      go_wp2
      go_region
      all_goals (go_wp2; go_ret; exact ⟨rfl, HRV.out, HV.out.mono hBw, kept_of_block HV.out.block⟩)
    · have hbd : w.drew.heap[b]? = some (.cells #[p, .slice (some ⟨g, 0, none⟩) 0 cap] 69 (0, 0)) := hbk
      have c1 : w.drew.cell? ⟨b, 1, none⟩ = some (.slice (some ⟨g, 0, none⟩) 0 cap) := by rw [Lib.cell_of_heap hbd]; rfl
      have r1 : (Builtin.unsafeSliceData_ #[36] 137 #[.slice (some ⟨g, 0, none⟩) 0 cap]).run Tryz.prog w.drew = .ok (.pointer (some ⟨g, 0, none⟩)) w.drew := Lib.run_unsafeSliceData_row _ _ _ _ _ _ hc0
      clear hbd hbk hown hne hg hp h hc0
      go_enter Tryz.func53, Tryz.ntmps53
      go_wp2
      go_region
      all_goals (go_wp2; go_ret; exact ⟨rfl, HR.out, Below.drew (Below.refl B w), kept_of_block fun _ _ => rfl⟩)
theorem string_any (B b : Nat) (l : List UInt8) (w : World) (h : Read B b l w) (hBw : B ≤ w.heap.size) :
    Calls Tryz.prog 53 #[.pointer (some ⟨b, 0, none⟩)] w fun e w' => e = .returned (.string ⟨l.toArray⟩) ∧ Read B b l w' ∧ Below B w w' ∧ Kept w w' := by
  by_cases h0 : l = []
  · subst h0; exact string_none B b w h hBw
  · exact string_some B b l w h h0
theorem wraps_u8 (x : Int) : IntKind.u8.wrap x = x % 256 := by simp [IntKind.wrap, IntKind.bits, IntKind.signed]
end Go.Proofs.YtfaeigbfnjkojaaGreatDoor.Bo
namespace Go.Proofs.YtfaeigbfnjkojaaGreatDoor.Be
open Go.Proofs.YtfaeigbfnjkojaaGreatDoor.Ow
def be : Nat → Nat → List UInt8
  | 0, _ => []
  | n + 1, x => UInt8.ofNat (x / 256 ^ n) :: be n x
theorem be_length (n x : Nat) : (be n x).length = n := by
  induction n with
  | zero => rfl
  | succ n ih => simp [be, ih]
theorem be_get : ∀ (m x k : Nat) (_ : k < m), (be m x)[k]? = some (UInt8.ofNat (x / 256 ^ (m - 1 - k)))
  | m + 1, x, 0, _ => by simp [be]
  | m + 1, x, k + 1, h => by
    have := be_get m x k (by omega)
    rw [show m + 1 - 1 - (k + 1) = m - 1 - k by omega, ← this]; rfl
theorem be_take (m x k : Nat) (h : k < m) : (be m x).take (k + 1) = (be m x).take k ++ [UInt8.ofNat (x / 256 ^ (m - 1 - k))] := by
  rw [List.take_add_one, be_get m x k h]; rfl
/-- the byte that a shift gives -/
theorem byte_val (m x k e : Nat) (he : e = 8 * (m - 1 - k)) : ((UInt8.ofNat (x / 256 ^ (m - 1 - k))).toNat : Int) = (x : Int) / 2 ^ e % 256 := by
  have e2 : (2 : Nat) ^ e = 256 ^ (m - 1 - k) := by rw [he, Nat.pow_mul]
  rw [UInt8.toNat_ofNat', ← e2, Int.natCast_emod, Int.natCast_ediv, Int.natCast_pow]; rfl
theorem be_mod (m x : Nat) : be m (x % 256 ^ m) = be m x := by
  suffices h : ∀ m M x, m ≤ M → be m (x % 256 ^ M) = be m x from h m m x (Nat.le_refl _)
  intro m
  induction m with
  | zero => intros; rfl
  | succ m ih =>
    intro M x h
    simp only [be]
    congr 1
    · apply UInt8.toNat_inj.1
      rw [UInt8.toNat_ofNat', UInt8.toNat_ofNat']
      have h1 : (256 : Nat) ^ M = 256 ^ m * (256 * 256 ^ (M - m - 1)) := by rw [← Nat.pow_succ', ← Nat.pow_add]; congr 1; omega
      rw [h1, Nat.mod_mul_right_div_self, Nat.mod_mul_right_mod]
    · exact ih M x (by omega)
end Go.Proofs.YtfaeigbfnjkojaaGreatDoor.Be
namespace Go.Proofs.YtfaeigbfnjkojaaGreatDoor.Ow
open Go.RowKit
variable {P : Program}
theorem rowBelow {w w' : World} {B : Nat} {E : TypeId} {k : Nat} {v : Value} {n : Nat} {xs : List Value} (h : w.ownsRow B E k v n xs) (hb : Below w.heap.size w w') : w'.ownsRow B E k v n xs :=
  World.ownsRow.kept h (row := none) ⟨hb.os, hb.tape, hb.output, hb.size, fun k hk _ => hb.block k hk⟩ (by cases hv : v.ownBlock <;> simp)
/-- append(v, y), y a struct by value -/
theorem appS {ops : Array Oper} {rest : List Oper} {o : Oper} {a : Act} {w : World} {Q : Exit → Act → World → Prop} (hgd : o.guard = none) (s x : Operand) (t : TypeId)
    (ho : o.op = .call { callee := .builtin .append, args := #[s, x], argTypes := #[t, t] }) {E : TypeId} {z : Value} {sz by' : Nat} (ht : P.underlying t = some (.slice E))
    (hI : (P.info? E).map (fun i => (i.zero, i.size, i.bytes)) = some (some z, sz, by')) (hz : z.cells.size = sz) (hsz : 0 < sz) (hby : 0 < by')
    {B n : Nat} {v : Value} {xs : List Value} (hO : w.ownsRow B E sz v n xs) (hs : a.eval s = v) {cs : Array Value} {T : TypeId} (hcs : cs.size = sz) (hx : a.eval x = .slice (some ⟨w.heap.size, 0, none⟩) 1 1) (h1 : cs.all (·.oneCell') = true)
    (hb : (n + 1) * by' ≤ 140737488355328) (hB : B ≤ w.heap.size)
    (h : ∀ v' w', w'.ownsRow B E sz v' (n + 1) (xs ++ cs.toList) → w.grownBy w' v.ownBlock → (v'.ownBlock = v.ownBlock ∨ v'.ownBlock = some (w.heap.size + 1)) → wpList P ops Q rest (a.put o.dst v') w') : wpList P ops Q (o :: rest) a (w.alloc (.cells cs T)) :=
  wpList_plain hgd fun _ hK => by
    obtain ⟨i, hi, hz0, hz1, hz2⟩ := info_parts hI
    have hmax : n + 1 ≤ maxLen := by
      have : n + 1 ≤ (n + 1) * by' := Nat.le_mul_of_pos_right _ hby
      simp only [maxLen]; omega
    have hnew := Rg.Blk.new w cs T
    obtain ⟨v', w', hr, h2, h3, _, h4⟩ := run_append_own_at (P := P) (w.alloc (.cells cs T)) B t o.type E i z sz by' ht hi hz0 hz1 hz2 hz hsz v n xs (rowBelow hO ((Below.refl _ _).alloc (Nat.le_refl _) _)) ⟨w.heap.size, 0, none⟩ 1 1 cs.toList (by simp [hcs])
      (fun j u hu => by
        have hadd : (⟨w.heap.size, 0, none⟩ : Addr).add j = ⟨w.heap.size, j, none⟩ := by unfold Addr.add; split <;> simp_all
        rw [hadd]; exact hnew.cell j (by simpa using hu))
      (fun u hu => by
        rw [Array.all_eq_true_iff_forall_mem] at h1
        exact h1 u (Array.mem_toList_iff.1 hu)) hmax hb (by simp; omega)
    unfold Oper.wp execOp
    simp only [ho, resolve, invoke, builtin, Sem.run_bind, Sem.run_pure, Result.andThen_ok, List.map_toArray, List.map_cons, List.map_nil, hs, hx, hr]
    exact hK _ _ (h v' w' h2 ⟨h3.os, h3.tape, h3.output, by have := h3.size; simp at this; omega, fun k hk hne => (h3.block k (by simp; omega) hne).trans (Below.heap_alloc w _ k hk)⟩ (by simpa using h4))
/-- every row of another type than T0 is as it was -/
structure KeptT (T0 : TypeId) (w w' : World) : Prop where
  size : w.heap.size ≤ w'.heap.size
  row : ∀ (k : Nat) (cs : Array Value) (T : TypeId) (fz : Nat × Nat), w.heap[k]? = some (.cells cs T fz) → T ≠ T0 → w'.heap[k]? = some (.cells cs T fz)
theorem KeptT.refl (T0 : TypeId) (w : World) : KeptT T0 w w := ⟨Nat.le_refl _, fun _ _ _ _ h _ => h⟩
theorem KeptT.trans {T0 : TypeId} {w w' w'' : World} (h : KeptT T0 w w') (h' : KeptT T0 w' w'') : KeptT T0 w w'' := ⟨Nat.le_trans h.size h'.size, fun k cs T fz hk hT => h'.row k cs T fz (h.row k cs T fz hk hT) hT⟩
theorem KeptT.below {T0 : TypeId} {w w' : World} (h : Below w.heap.size w w') : KeptT T0 w w' := ⟨h.size, fun k _ _ _ hk _ => (h.block k (Array.getElem?_eq_some_iff.1 hk).1).trans hk⟩
theorem KeptT.grown {T0 : TypeId} {w w' : World} {row : Option Nat} (h : w.grownBy w' row) (hr : ∀ g, row = some g → ∃ cs fz, w.heap[g]? = some (.cells cs T0 fz)) : KeptT T0 w w' :=
  ⟨h.size, fun k cs T fz hk hT => (h.block k (Array.getElem?_eq_some_iff.1 hk).1 (fun e => by
    obtain ⟨cs', fz', h'⟩ := hr k e.symm
    rw [hk] at h'
    simp only [Option.some.injEq, Obj.cells.injEq] at h'
    exact hT h'.2.1)).trans hk⟩
theorem KeptT.grownAt {T0 : TypeId} {w w' : World} {b : Nat} {cs : Array Value} (h : w.grownBy w' (some b)) (hb : Rg.Blk w b T0 cs) : KeptT T0 w w' := KeptT.grown h fun g hg => by cases hg; exact ⟨_, _, hb⟩
theorem KeptT.grownRow {T0 : TypeId} {w w' : World} {B k n : Nat} {v : Value} {xs : List Value} (h : w.grownBy w' v.ownBlock) (ho : w.ownsRow B T0 k v n xs) : KeptT T0 w w' := KeptT.grown h fun g hg => Lib.ownsRow_kind ho g hg
theorem KeptT.owns {T0 E : TypeId} {w w' : World} {B k n : Nat} {v : Value} {xs : List Value} (h : KeptT T0 w w') (ho : w.ownsRow B E k v n xs) (hE : E ≠ T0) : w'.ownsRow B E k v n xs := by
  obtain ⟨hl, h0 | ⟨g, cap, cur, hv, hB, hg, h1⟩⟩ := ho
  · exact ⟨hl, .inl h0⟩
  · exact ⟨hl, .inr ⟨g, cap, cur, hv, hB, h.row _ _ _ _ hg hE, h1⟩⟩
theorem calm_owns {E : TypeId} {w w' : World} {B C b k n : Nat} {v : Value} {xs : List Value} (h : Bo.Calm C b w w') (ho : w.ownsRow B E k v n xs) (hE : E ≠ 5) (hb : v.ownBlock ≠ some b) : w'.ownsRow B E k v n xs := by
  obtain ⟨hl, h0 | ⟨g, cap, cur, hv, hB, hg, h1⟩⟩ := ho
  · exact ⟨hl, .inl h0⟩
  · exact ⟨hl, .inr ⟨g, cap, cur, hv, hB, h.kept _ _ _ _ hg hE (fun e => hb (by rw [hv, e]; rfl)), h1⟩⟩
end Go.Proofs.YtfaeigbfnjkojaaGreatDoor.Ow
