/- wire.Out: what each call writes. -/
import Derived.Test.YtjfikbnfabdkoaaDoorBuilderO
import Derived.Test.YtjfikbnfabdkoaaDoorBe
import Derived.Test.YtjfikbnfabdkoaaDoorRegion
import Derived.Test.YtjfikbnfabdkoaaDoorShelf
import Derived.Lib.Hide
set_option linter.unusedVariables false
set_option linter.unusedSimpArgs false
namespace Go.Proofs.YtjfikbnfabdkoaaDoor.Wi
open Go.RowKit Go.Proofs.YtjfikbnfabdkoaaDoor.Ow Go.Proofs.YtjfikbnfabdkoaaDoor.Be
/-- block b is an Out with the bytes l -/
def IsOut (B b : Nat) (l : List UInt8) (w : World) : Prop := Lib.IsBuilder 104 5 B b (bv l) w
def Wrote (B b : Nat) (l : List UInt8) (w : World) (e : Ending) (w' : World) : Prop := e = .returned (.pointer (some ⟨b, 0, none⟩)) ∧ IsOut B b l w' ∧ Bo.Calm B b w w'
theorem outFresh (w : World) : IsOut w.heap.size w.heap.size [] (w.alloc (.cells #[.pointer none, .slice none 0 0] 104)) := Bo.fresh w
theorem at_below {B b : Nat} {p : Value} {bs : List Value} {w w' : World} (h : Lib.BuilderAt 104 5 B b p bs w) (hb : Below w.heap.size w w') : Lib.BuilderAt 104 5 B b p bs w' := by
  have hlt := h.lt
  obtain ⟨hB, v, hbk, hown, hne⟩ := h
  exact ⟨hB, v, (hb.block b hlt).trans hbk, World.ownsRow.kept hown (row := none) ⟨hb.os, hb.tape, hb.output, hb.size, fun k hk _ => hb.block k hk⟩ (by cases hv : v.ownBlock <;> simp), hne⟩
theorem IsOut.below {B b : Nat} {l : List UInt8} {w w' : World} (h : IsOut B b l w) (hb : Below w.heap.size w w') : IsOut B b l w' := by
  rcases h with h | h
  · exact .inl (at_below h hb)
  · exact .inr (at_below h hb)
theorem bv_snoc (l : List UInt8) (c : UInt8) (x : Int) (h : x = c.toNat) : bv l ++ [.int .u8 x] = bv (l ++ [c]) := by rw [bv_append, bv_one c x h]
theorem strCells_eq (s : ByteArray) : Lib.strCells s = bv s.data.toList := rfl
set_option maxHeartbeats 400000 in
theorem Byte_any (B b : Nat) (l : List UInt8) (c : UInt8) (x : Int) (hx : x = c.toNat) (w : World) (h : IsOut B b l w) (hl : l.length + 1 ≤ 140737488355328) (hB : B ≤ w.heap.size) :
    Calls Tryd.prog 51 #[.pointer (some ⟨b, 0, none⟩), .int .u8 x] w (Wrote B b (l ++ [c]) w) := by
  have H := Lib.hid h
  have HX := Lib.hid hx
  clear h hx
  go_enter Tryd.func51, Tryd.ntmps51
  go_wp2_with (go_at_call 88; refine (Bo.writeByte B b _ _ _ H.out (by rw [bv_length]; exact hl) hB).mono ?_; rintro e w1 ⟨rfl, h1, hb1⟩; skip; have H1 := Lib.hid h1; have HB1 := Lib.hid hb1; clear h1 hb1)
  go_ret
  exact ⟨rfl, .inr ((bv_snoc l c x HX.out) ▸ H1.out), HB1.out⟩
theorem Bool_any (B b : Nat) (l : List UInt8) (c : Bool) (w : World) (h : IsOut B b l w) (hl : l.length + 1 ≤ 140737488355328) (hB : B ≤ w.heap.size) :
    Calls Tryd.prog 54 #[.pointer (some ⟨b, 0, none⟩), .bool c] w (Wrote B b (l ++ [if c then 1 else 0]) w) := by
  have H := Lib.hid h
  clear h
  cases c
  · go_enter Tryd.func54, Tryd.ntmps54
    go_wp2_with (go_at_call 51; refine (Byte_any B b l 0 0 rfl _ H.out hl hB).mono ?_; rintro e w1 ⟨rfl, h1, hb1⟩; skip; have H1 := Lib.hid h1; have HB1 := Lib.hid hb1; clear h1 hb1)
    go_ret
    exact ⟨rfl, H1.out, HB1.out⟩
  · go_enter Tryd.func54, Tryd.ntmps54
    go_wp2_with (go_at_call 51; refine (Byte_any B b l 1 1 rfl _ H.out hl hB).mono ?_; rintro e w1 ⟨rfl, h1, hb1⟩; skip; have H1 := Lib.hid h1; have HB1 := Lib.hid hb1; clear h1 hb1)
    go_ret
    exact ⟨rfl, H1.out, HB1.out⟩
set_option maxHeartbeats 400000 in
theorem Raw_any (B b : Nat) (l : List UInt8) (s : ByteArray) (w : World) (h : IsOut B b l w) (hl : l.length + s.size ≤ 140737488355328) (hB : B ≤ w.heap.size) :
    Calls Tryd.prog 58 #[.pointer (some ⟨b, 0, none⟩), .string s] w (Wrote B b (l ++ s.data.toList) w) := by
  have H := Lib.hid h
  clear h
  go_enter Tryd.func58, Tryd.ntmps58
  go_wp2_with (go_at_call 90; refine (Bo.writeString B b _ s _ H.out (by rw [bv_length]; exact hl) hB).mono ?_; rintro e w1 ⟨rfl, h1, hb1⟩; skip; have H1 := Lib.hid h1; have HB1 := Lib.hid hb1; clear h1 hb1)
  go_ret
  exact ⟨rfl, .inr (by have := H1.out; rw [strCells_eq, ← bv_append] at this; exact this), HB1.out⟩
set_option maxRecDepth 20000 in
set_option maxHeartbeats 1000000 in
theorem put4_any (B b : Nat) (l : List UInt8) (n : Nat) (hn : n < 18446744073709551616) (w : World) (h : IsOut B b l w) (hl : l.length + 4 ≤ 140737488355328) (hB : B ≤ w.heap.size) :
    Calls Tryd.prog 89 #[.pointer (some ⟨b, 0, none⟩), .int .u64 n, .int .i64 4] w (Wrote B b (l ++ be 4 n) w) := by
  have H := Lib.hid (show IsOut B b (l ++ (be 4 n).take 0) w by rw [List.take_zero, List.append_nil]; exact h)
  clear h
  go_enter Tryd.func89, Tryd.ntmps89
  go_wp2_with fail
  go_loopw [7] (fun i wr => ∃ k : Nat, k ≤ 4 ∧ i = .int .i64 (3 - (k : Int)) ∧ IsOut B b (l ++ (be 4 n).take k) wr ∧ Bo.Calm B b w wr) (fun i _ => (intOf i + 1).toNat)
  case atStart => exact ⟨0, Nat.zero_le _, rfl, H.out, Bo.Calm.refl _ _ _⟩
  case round =>
    obtain ⟨k, hk, rfl, hO, hb⟩ := hrel
    have HO := Lib.hid hO
    have HB := Lib.hid hb
    have hszb := hb.size
    clear hO hb H
    by_cases hkm : k < 4
    · have hi0 : (0 : Int) ≤ 3 - (k : Int) := by omega
      have hi1 : (0 : Int) ≤ 8 * (3 - (k : Int)) := by omega
      have hmn : min (8 * (3 - (k : Int))).toNat 64 = 8 * (3 - k) := by omega
      have HV := Lib.hid (byte_val 4 n k (8 * (3 - k)) (by omega))
      have HT := Lib.hid (be_take 4 n k hkm)
      have hll : (l ++ (be 4 n).take k).length + 1 ≤ 140737488355328 := by rw [List.length_append, List.length_take]; omega
      go_wp2_with fail
      refine Rg.wp_region_later wr.heap.size 8 (by kernel_rfl) (by kernel_rfl) ?_
      simp only [List.take_succ_cons, List.take_zero, List.drop_succ_cons, List.drop_zero]
      repeat (go_big_quiet_step (fail))
      refine wpQuiet_nil ?_
      rintro _ ⟨s8, rfl⟩
      have hs8 := s8.is.size
      have HO8 := Lib.hid (show IsOut B b (l ++ (be 4 n).take k) s8.val from HO.out.below s8.is)
      go_wp2_with (go_at_call 88; refine (Bo.writeByte B b _ _ _ HO8.out (by rw [bv_length]; exact hll) (by omega)).mono ?_; rintro e w1 ⟨rfl, h1, hb1⟩; skip; have H1 := Lib.hid h1; have HB1 := Lib.hid hb1; clear h1 hb1)
      go_roundw
      case rel =>
        have h1 := H1.out
        rw [bv_snoc _ _ _ HV.out.symm, List.append_assoc, ← HT.out] at h1
        have hb' : Bo.Calm B b w w1 := (HB.out.trans (Bo.Calm.of s8.is (by omega))).trans HB1.out
        first
          | exact ⟨k + 1, by omega, by go_num, .inr h1, hb'⟩
          | ((repeat apply Exists.intro); refine ⟨?_, rfl⟩; exact ⟨k + 1, by omega, by go_num, .inr h1, hb'⟩)
      case measure => simp [intOf]; omega
    · obtain rfl : k = 4 := by omega
      have HF := Lib.hid (show IsOut B b (l ++ be 4 n) wr by have := HO.out; rwa [List.take_of_length_le (Nat.le_of_eq (be_length _ _))] at this)
      go_wp2_with fail
      go_ret
      exact ⟨rfl, HF.out, HB.out⟩
set_option maxRecDepth 20000 in
set_option maxHeartbeats 1000000 in
theorem put8_any (B b : Nat) (l : List UInt8) (n : Nat) (hn : n < 18446744073709551616) (w : World) (h : IsOut B b l w) (hl : l.length + 8 ≤ 140737488355328) (hB : B ≤ w.heap.size) :
    Calls Tryd.prog 89 #[.pointer (some ⟨b, 0, none⟩), .int .u64 n, .int .i64 8] w (Wrote B b (l ++ be 8 n) w) := by
  have H := Lib.hid (show IsOut B b (l ++ (be 8 n).take 0) w by rw [List.take_zero, List.append_nil]; exact h)
  clear h
  go_enter Tryd.func89, Tryd.ntmps89
  go_wp2_with fail
  go_loopw [7] (fun i wr => ∃ k : Nat, k ≤ 8 ∧ i = .int .i64 (7 - (k : Int)) ∧ IsOut B b (l ++ (be 8 n).take k) wr ∧ Bo.Calm B b w wr) (fun i _ => (intOf i + 1).toNat)
  case atStart => exact ⟨0, Nat.zero_le _, rfl, H.out, Bo.Calm.refl _ _ _⟩
  case round =>
    obtain ⟨k, hk, rfl, hO, hb⟩ := hrel
    have HO := Lib.hid hO
    have HB := Lib.hid hb
    have hszb := hb.size
    clear hO hb H
    by_cases hkm : k < 8
    · have hi0 : (0 : Int) ≤ 7 - (k : Int) := by omega
      have hi1 : (0 : Int) ≤ 8 * (7 - (k : Int)) := by omega
      have hmn : min (8 * (7 - (k : Int))).toNat 64 = 8 * (7 - k) := by omega
      have HV := Lib.hid (byte_val 8 n k (8 * (7 - k)) (by omega))
      have HT := Lib.hid (be_take 8 n k hkm)
      have hll : (l ++ (be 8 n).take k).length + 1 ≤ 140737488355328 := by rw [List.length_append, List.length_take]; omega
      go_wp2_with fail
      refine Rg.wp_region_later wr.heap.size 8 (by kernel_rfl) (by kernel_rfl) ?_
      simp only [List.take_succ_cons, List.take_zero, List.drop_succ_cons, List.drop_zero]
      repeat (go_big_quiet_step (fail))
      refine wpQuiet_nil ?_
      rintro _ ⟨s8, rfl⟩
      have hs8 := s8.is.size
      have HO8 := Lib.hid (show IsOut B b (l ++ (be 8 n).take k) s8.val from HO.out.below s8.is)
      go_wp2_with (go_at_call 88; refine (Bo.writeByte B b _ _ _ HO8.out (by rw [bv_length]; exact hll) (by omega)).mono ?_; rintro e w1 ⟨rfl, h1, hb1⟩; skip; have H1 := Lib.hid h1; have HB1 := Lib.hid hb1; clear h1 hb1)
      go_roundw
      case rel =>
        have h1 := H1.out
        rw [bv_snoc _ _ _ HV.out.symm, List.append_assoc, ← HT.out] at h1
        have hb' : Bo.Calm B b w w1 := (HB.out.trans (Bo.Calm.of s8.is (by omega))).trans HB1.out
        first
          | exact ⟨k + 1, by omega, by go_num, .inr h1, hb'⟩
          | ((repeat apply Exists.intro); refine ⟨?_, rfl⟩; exact ⟨k + 1, by omega, by go_num, .inr h1, hb'⟩)
      case measure => simp [intOf]; omega
    · obtain rfl : k = 8 := by omega
      have HF := Lib.hid (show IsOut B b (l ++ be 8 n) wr by have := HO.out; rwa [List.take_of_length_le (Nat.le_of_eq (be_length _ _))] at this)
      go_wp2_with fail
      go_ret
      exact ⟨rfl, HF.out, HB.out⟩
end Go.Proofs.YtjfikbnfabdkoaaDoor.Wi
