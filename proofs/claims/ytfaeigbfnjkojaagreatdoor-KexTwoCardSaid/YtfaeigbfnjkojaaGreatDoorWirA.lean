/- wire.Out: what each call writes. wire.Out: numbers, texts, names, big numbers; its bytes. wire.In: raw bytes and numbers. wire.In: numbers. wire.In: texts; what is left; the end. Names: of the program, and of the reference. -/
import Derived.Test.YtfaeigbfnjkojaaGreatDoorGenB
import Derived.Test.YtfaeigbfnjkojaaGreatDoorGenA
import Derived.Test.YtfaeigbfnjkojaaGreatDoorShelf
import Derived.Lib.Hide
import Derived.Lib.Join
import Derived.Lib.TrimByte
import Derived.WalkLawsBesides
import Derived.WideLaws
set_option linter.unusedVariables false
set_option linter.unusedSimpArgs false
namespace Go.Proofs.YtfaeigbfnjkojaaGreatDoor.Wi
open Go.RowKit Go.Proofs.YtfaeigbfnjkojaaGreatDoor.Ow Go.Proofs.YtfaeigbfnjkojaaGreatDoor.Be
/-- block b is an Out with the bytes l -/
def IsOut (B b : Nat) (l : List UInt8) (w : World) : Prop := Lib.IsBuilder 69 5 B b (bv l) w
def Wrote (B b : Nat) (l : List UInt8) (w : World) (e : Ending) (w' : World) : Prop := e = .returned (.pointer (some ⟨b, 0, none⟩)) ∧ IsOut B b l w' ∧ Bo.Calm B b w w'
theorem outFresh (w : World) : IsOut w.heap.size w.heap.size [] (w.alloc (.cells #[.pointer none, .slice none 0 0] 69)) := Bo.fresh w
theorem at_below {B b : Nat} {p : Value} {bs : List Value} {w w' : World} (h : Lib.BuilderAt 69 5 B b p bs w) (hb : Below w.heap.size w w') : Lib.BuilderAt 69 5 B b p bs w' := by
  have hlt := h.lt
  obtain ⟨hB, v, hbk, hown, hne⟩ := h
  exact ⟨hB, v, (hb.block b hlt).trans hbk, World.ownsRow.kept hown (row := none) ⟨hb.os, hb.tape, hb.output, hb.size, fun k hk _ => hb.block k hk⟩ (by cases hv : v.ownBlock <;> simp), hne⟩
theorem IsOut.below {B b : Nat} {l : List UInt8} {w w' : World} (h : IsOut B b l w) (hb : Below w.heap.size w w') : IsOut B b l w' := by
  rcases h with h | h
  · exact .inl (at_below h hb)
  · exact .inr (at_below h hb)
theorem bv_snoc (l : List UInt8) (c : UInt8) (x : Int) (h : x = c.toNat) : bv l ++ [.int .u8 x] = bv (l ++ [c]) := by rw [bv_append, bv_one c x h]
theorem strCells_eq (s : ByteArray) : Lib.strCells s = bv s.data.toList := rfl
set_option maxHeartbeats 400000 in
theorem Raw_any (B b : Nat) (l : List UInt8) (s : ByteArray) (w : World) (h : IsOut B b l w) (hl : l.length + s.size ≤ 140737488355328) (hB : B ≤ w.heap.size) :
    Calls Tryz.prog 30 #[.pointer (some ⟨b, 0, none⟩), .string s] w (Wrote B b (l ++ s.data.toList) w) := by
  have H := Lib.hid h
  clear h
  go_enter Tryz.func30, Tryz.ntmps30
  go_wp2_with (go_at_call 52; refine (Bo.writeString B b _ s _ H.out (by rw [bv_length]; exact hl) hB).mono ?_; rintro e w1 ⟨rfl, h1, hb1⟩; skip; have H1 := Lib.hid h1; have HB1 := Lib.hid hb1; clear h1 hb1)
  go_ret
  exact ⟨rfl, .inr (by have := H1.out; rw [strCells_eq, ← bv_append] at this; exact this), HB1.out⟩
set_option maxRecDepth 20000 in
set_option maxHeartbeats 1000000 in
theorem put4_any (B b : Nat) (l : List UInt8) (n : Nat) (hn : n < 18446744073709551616) (w : World) (h : IsOut B b l w) (hl : l.length + 4 ≤ 140737488355328) (hB : B ≤ w.heap.size) :
    Calls Tryz.prog 75 #[.pointer (some ⟨b, 0, none⟩), .int .u64 n, .int .i64 4] w (Wrote B b (l ++ be 4 n) w) := by
  have H := Lib.hid (show IsOut B b (l ++ (be 4 n).take 0) w by rw [List.take_zero, List.append_nil]; exact h)
  clear h
  go_enter Tryz.func75, Tryz.ntmps75
  go_wp2_with fail
  go_loopw [7] (fun i wr => ∃ k : Nat, k ≤ 4 ∧ i = .int .i64 (3 - (k : Int)) ∧ IsOut B b (l ++ (be 4 n).take k) wr ∧ Bo.Calm B b w wr) (fun i _ => (intOf i + 1).toNat)
  case atStart => exact ⟨0, Nat.zero_le _, rfl, H.out, Bo.Calm.refl _ _ _⟩
  case round =>
    obtain ⟨k, hk, rfl, hO, hb⟩ := hrel
    have HO := Lib.hid hO
    have HB := Lib.hid hb
    have hszb := hb.size
    clear hO hb H
    by_cases hkm : k < 4
    · have hi0 : (0 : Int) ≤ 3 - (k : Int) := by omega
      have hi1 : (0 : Int) ≤ 8 * (3 - (k : Int)) := by omega
      have hmn : min (8 * (3 - (k : Int))).toNat 64 = 8 * (3 - k) := by omega
      have HV := Lib.hid (byte_val 4 n k (8 * (3 - k)) (by omega))
      have HT := Lib.hid (be_take 4 n k hkm)
      have hll : (l ++ (be 4 n).take k).length + 1 ≤ 140737488355328 := by rw [List.length_append, List.length_take]; omega
      go_wp2_with fail
      refine Rg.wp_region_later wr.heap.size 8 (by kernel_rfl) (by kernel_rfl) ?_
      simp only [List.take_succ_cons, List.take_zero, List.drop_succ_cons, List.drop_zero]
      repeat (go_big_quiet_step (fail))
      refine wpQuiet_nil ?_
      rintro _ ⟨s8, rfl⟩
      have hs8 := s8.is.size
      have HO8 := Lib.hid (show IsOut B b (l ++ (be 4 n).take k) s8.val from HO.out.below s8.is)
      go_wp2_with (go_at_call 71; refine (Bo.writeByte B b _ _ _ HO8.out (by rw [bv_length]; exact hll) (by omega)).mono ?_; rintro e w1 ⟨rfl, h1, hb1⟩; skip; have H1 := Lib.hid h1; have HB1 := Lib.hid hb1; clear h1 hb1)
      go_roundw
      case rel =>
        have h1 := H1.out
        rw [bv_snoc _ _ _ HV.out.symm, List.append_assoc, ← HT.out] at h1
        have hb' : Bo.Calm B b w w1 := (HB.out.trans (Bo.Calm.of s8.is (by omega))).trans HB1.out
        first
          | exact ⟨k + 1, by omega, by go_num, .inr h1, hb'⟩
          | ((repeat apply Exists.intro); refine ⟨?_, rfl⟩; exact ⟨k + 1, by omega, by go_num, .inr h1, hb'⟩)
      case measure => simp [intOf]; omega
    · obtain rfl : k = 4 := by omega
      have HF := Lib.hid (show IsOut B b (l ++ be 4 n) wr by have := HO.out; rwa [List.take_of_length_le (Nat.le_of_eq (be_length _ _))] at this)
      go_wp2_with fail
      go_ret
      exact ⟨rfl, HF.out, HB.out⟩
set_option maxRecDepth 20000 in
set_option maxHeartbeats 1000000 in
theorem put8_any (B b : Nat) (l : List UInt8) (n : Nat) (hn : n < 18446744073709551616) (w : World) (h : IsOut B b l w) (hl : l.length + 8 ≤ 140737488355328) (hB : B ≤ w.heap.size) :
    Calls Tryz.prog 75 #[.pointer (some ⟨b, 0, none⟩), .int .u64 n, .int .i64 8] w (Wrote B b (l ++ be 8 n) w) := by
  have H := Lib.hid (show IsOut B b (l ++ (be 8 n).take 0) w by rw [List.take_zero, List.append_nil]; exact h)
  clear h
  go_enter Tryz.func75, Tryz.ntmps75
  go_wp2_with fail
  go_loopw [7] (fun i wr => ∃ k : Nat, k ≤ 8 ∧ i = .int .i64 (7 - (k : Int)) ∧ IsOut B b (l ++ (be 8 n).take k) wr ∧ Bo.Calm B b w wr) (fun i _ => (intOf i + 1).toNat)
  case atStart => exact ⟨0, Nat.zero_le _, rfl, H.out, Bo.Calm.refl _ _ _⟩
  case round =>
    obtain ⟨k, hk, rfl, hO, hb⟩ := hrel
    have HO := Lib.hid hO
    have HB := Lib.hid hb
    have hszb := hb.size
    clear hO hb H
    by_cases hkm : k < 8
    · have hi0 : (0 : Int) ≤ 7 - (k : Int) := by omega
      have hi1 : (0 : Int) ≤ 8 * (7 - (k : Int)) := by omega
      have hmn : min (8 * (7 - (k : Int))).toNat 64 = 8 * (7 - k) := by omega
      have HV := Lib.hid (byte_val 8 n k (8 * (7 - k)) (by omega))
      have HT := Lib.hid (be_take 8 n k hkm)
      have hll : (l ++ (be 8 n).take k).length + 1 ≤ 140737488355328 := by rw [List.length_append, List.length_take]; omega
      go_wp2_with fail
      refine Rg.wp_region_later wr.heap.size 8 (by kernel_rfl) (by kernel_rfl) ?_
      simp only [List.take_succ_cons, List.take_zero, List.drop_succ_cons, List.drop_zero]
      repeat (go_big_quiet_step (fail))
      refine wpQuiet_nil ?_
      rintro _ ⟨s8, rfl⟩
      have hs8 := s8.is.size
      have HO8 := Lib.hid (show IsOut B b (l ++ (be 8 n).take k) s8.val from HO.out.below s8.is)
      go_wp2_with (go_at_call 71; refine (Bo.writeByte B b _ _ _ HO8.out (by rw [bv_length]; exact hll) (by omega)).mono ?_; rintro e w1 ⟨rfl, h1, hb1⟩; skip; have H1 := Lib.hid h1; have HB1 := Lib.hid hb1; clear h1 hb1)
      go_roundw
      case rel =>
        have h1 := H1.out
        rw [bv_snoc _ _ _ HV.out.symm, List.append_assoc, ← HT.out] at h1
        have hb' : Bo.Calm B b w w1 := (HB.out.trans (Bo.Calm.of s8.is (by omega))).trans HB1.out
        first
          | exact ⟨k + 1, by omega, by go_num, .inr h1, hb'⟩
          | ((repeat apply Exists.intro); refine ⟨?_, rfl⟩; exact ⟨k + 1, by omega, by go_num, .inr h1, hb'⟩)
      case measure => simp [intOf]; omega
    · obtain rfl : k = 8 := by omega
      have HF := Lib.hid (show IsOut B b (l ++ be 8 n) wr by have := HO.out; rwa [List.take_of_length_le (Nat.le_of_eq (be_length _ _))] at this)
      go_wp2_with fail
      go_ret
      exact ⟨rfl, HF.out, HB.out⟩
end Go.Proofs.YtfaeigbfnjkojaaGreatDoor.Wi
namespace Go.Proofs.YtfaeigbfnjkojaaGreatDoor.Wi
open Go.RowKit Go.Proofs.YtfaeigbfnjkojaaGreatDoor.Ow Go.Proofs.YtfaeigbfnjkojaaGreatDoor.Be
def textL (l : List UInt8) : List UInt8 := be 4 l.length ++ l
def strip (l : List UInt8) : List UInt8 := l.dropWhile (· == 0)
def bigL (l : List UInt8) : List UInt8 := if 128 ≤ ((strip l).headD 0).toNat then 0 :: strip l else strip l
def joinC (xs : List ByteArray) : List UInt8 := Lib.join (xs.map (·.data.toList)) [44]
theorem IsOut.lt {B b : Nat} {l : List UInt8} {w : World} (h : IsOut B b l w) : b < w.heap.size := h.elim Lib.BuilderAt.lt Lib.BuilderAt.lt
theorem len_list (s : ByteArray) : s.data.toList.length = s.size := Array.length_toList
theorem strip_length (l : List UInt8) : (strip l).length ≤ l.length := (List.dropWhile_sublist _).length_le
theorem bigL_length (l : List UInt8) : (bigL l).length ≤ l.length + 1 := by
  have := strip_length l
  unfold bigL; split
  · simp; omega
  · omega
theorem U32_any (B b : Nat) (l : List UInt8) (n : Nat) (hn : n < 4294967296) (w : World) (h : IsOut B b l w) (hl : l.length + 4 ≤ 140737488355328) (hB : B ≤ w.heap.size) :
    Calls Tryz.prog 57 #[.pointer (some ⟨b, 0, none⟩), .int .u32 n] w (Wrote B b (l ++ be 4 n) w) := by
  have H := Lib.hid h
  clear h
  go_enter Tryz.func57, Tryz.ntmps57
  go_wp2_with (go_at_call 75; refine (put4_any B b l n (by omega) _ H.out hl hB).mono ?_; rintro e w1 ⟨rfl, h1, hb1⟩; skip; have H1 := Lib.hid h1; have HB1 := Lib.hid hb1; clear h1 hb1)
  go_ret
  exact ⟨rfl, H1.out, HB1.out⟩
theorem Text_any (B b : Nat) (l : List UInt8) (s : ByteArray) (hs : s.size < 4294967296) (w : World) (h : IsOut B b l w) (hl : l.length + 4 + s.size ≤ 140737488355328) (hB : B ≤ w.heap.size) :
    Calls Tryz.prog 36 #[.pointer (some ⟨b, 0, none⟩), .string s] w (Wrote B b (l ++ textL s.data.toList) w) := by
  have H := Lib.hid h
  clear h
  go_enter Tryz.func36, Tryz.ntmps36
  go_wp2_with (first
    | (go_at_call 57; refine (U32_any B b l s.size hs _ H.out (by omega) hB).mono ?_; rintro e w1 ⟨rfl, h1, hb1⟩; skip; have H1 := Lib.hid h1; have HB1 := Lib.hid hb1; clear h1 hb1)
    | (go_at_call 30; refine (Raw_any B b (l ++ be 4 s.size) s _ H1.out (by rw [List.length_append, be_length]; exact hl) (by have := HB1.out.size; omega)).mono ?_; rintro e w2 ⟨rfl, h2, hb2⟩; skip; have H2 := Lib.hid h2; have HB2 := Lib.hid hb2; clear h2 hb2))
  go_ret
  refine ⟨rfl, ?_, HB1.out.trans HB2.out⟩
  have h2 := H2.out
  unfold textL
  rw [len_list, ← List.append_assoc]
  exact h2
theorem head_get (s : ByteArray) (h : 0 < s.size) : (s.data.toList.headD 0) = s[0] := by
  obtain ⟨⟨l⟩⟩ := s
  cases l with
  | nil => exact absurd h (Nat.lt_irrefl 0)
  | cons x l => rfl
set_option maxHeartbeats 1000000 in
theorem Big_any (B b : Nat) (l : List UInt8) (s : ByteArray) (hs : s.size < 4294967200) (w : World) (h : IsOut B b l w) (hl : l.length + 5 + s.size ≤ 140737488355328) (hB : B ≤ w.heap.size) :
    Calls Tryz.prog 29 #[.pointer (some ⟨b, 0, none⟩), .string s] w (Wrote B b (l ++ textL (bigL s.data.toList)) w) := by
  have H := Lib.hid h
  have HS := Lib.hid (strip_length s.data.toList)
  obtain ⟨t, ht⟩ : ∃ t : ByteArray, (⟨(strip s.data.toList).toArray⟩ : ByteArray) = t := ⟨_, rfl⟩
  have HTL := Lib.hid (show t.data.toList = strip s.data.toList by rw [← ht])
  have hts : t.size ≤ s.size := by rw [← len_list t, HTL.out, ← len_list s]; exact HS.out
  have HT : Hid (∀ W : World, Calls Tryz.prog 51 #[.string s, .string ⟨#[0]⟩] W fun e w' => e = .returned (.string t) ∧ w' = W) := Lib.hid (fun W => by rw [← ht]; exact Tryz.strings_TrimLeft_one s 0 (by decide) W)
  clear h ht
  by_cases h0 : 0 < t.size
  · have hne : t.toList = [] ↔ False := by
      constructor
      · intro e; rw [ByteArray.toList_eq] at e; have := len_list t; rw [e] at this; simp at this; omega
      · exact False.elim
    have hne1 : t.toList.isEmpty = false := by rw [List.isEmpty_eq_false_iff]; exact fun e => hne.1 e
    have HH := Lib.hid (head_get t h0)
    by_cases h8 : 128 ≤ t[0].toNat
    · have HBig := Lib.hid (show bigL s.data.toList = 0 :: t.data.toList by unfold bigL; rw [← HTL.out, if_pos (by rw [HH.out]; exact h8)])
      have hd : (128 : Int) ≤ (t[0].toNat : Int) := by omega
      have hq : ¬ 9223372036854775807 < 1 + t.size := by omega
      have HA := Lib.hid (show ((⟨#[0]⟩ : ByteArray) ++ t).data.toList = 0 :: t.data.toList by simp)
      have HAS := Lib.hid (show ((⟨#[0]⟩ : ByteArray) ++ t).size = 1 + t.size by rw [ByteArray.size_append]; rfl)
      go_enter Tryz.func29, Tryz.ntmps29
      go_wp2_with (first
        | (go_at_call 51; refine (HT.out _).mono ?_; rintro e w1 ⟨rfl, rfl⟩; skip)
        | (go_at_call 36; refine (Text_any B b l _ (by rw [HAS.out]; omega) _ H.out (by rw [HAS.out]; omega) hB).mono ?_; rintro e w2 ⟨rfl, h2, hb2⟩; skip; have H2 := Lib.hid h2; have HB2 := Lib.hid hb2; clear h2 hb2))
      go_ret
      refine ⟨rfl, ?_, HB2.out⟩
      have h2 := H2.out
      rw [HA.out] at h2
      rw [HBig.out]; exact h2
    · have HBig := Lib.hid (show bigL s.data.toList = t.data.toList by unfold bigL; rw [← HTL.out, if_neg (by rw [HH.out]; exact h8)])
      have hd : decide ((128 : Int) ≤ (t[0].toNat : Int)) = false := by rw [decide_eq_false_iff_not]; omega
      clear h8 hne
      go_enter Tryz.func29, Tryz.ntmps29
      go_wp2_with (first
        | (go_at_call 51; refine (HT.out _).mono ?_; rintro e w1 ⟨rfl, rfl⟩; skip)
        | (go_at_call 36; refine (Text_any B b l t (by omega) _ H.out (by omega) hB).mono ?_; rintro e w2 ⟨rfl, h2, hb2⟩; skip; have H2 := Lib.hid h2; have HB2 := Lib.hid hb2; clear h2 hb2))
      go_ret
      refine ⟨rfl, ?_, HB2.out⟩
      have h2 := H2.out
      rw [HBig.out]; exact h2
  · have HBig := Lib.hid (show bigL s.data.toList = t.data.toList by
      unfold bigL
      have : t.data.toList = [] := List.eq_nil_of_length_eq_zero (by rw [len_list]; omega)
      rw [← HTL.out, this]; rfl)
    have ht0 : t = ⟨#[]⟩ := by
      apply ByteArray.ext; apply Array.toList_inj.1
      exact List.eq_nil_of_length_eq_zero (by rw [len_list]; omega)
    have HT0 := Lib.hid ht0
    clear ht0
    have hne2 : t.toList = [] := by rw [ByteArray.toList_eq, HT0.out]
    have hne1 : t.toList.isEmpty = true := by rw [hne2]; rfl
    go_enter Tryz.func29, Tryz.ntmps29
    go_wp2_with (first
      | (go_at_call 51; refine (HT.out _).mono ?_; rintro e w1 ⟨rfl, rfl⟩; skip)
      | (go_at_call 36; refine (Text_any B b l t (by omega) _ H.out (by omega) hB).mono ?_; rintro e w2 ⟨rfl, h2, hb2⟩; skip; have H2 := Lib.hid h2; have HB2 := Lib.hid hb2; clear h2 hb2))
    go_ret
    refine ⟨rfl, ?_, HB2.out⟩
    have h2 := H2.out
    rw [HBig.out]; exact h2
theorem Bytes_any (B b : Nat) (l : List UInt8) (w : World) (h : Bo.Read B b l w) (hB : B ≤ w.heap.size) :
    Calls Tryz.prog 31 #[.pointer (some ⟨b, 0, none⟩)] w fun e w' => e = .returned (.string ⟨l.toArray⟩) ∧ Bo.Read B b l w' ∧ Below B w w' ∧ Bo.Kept w w' := by
  have H := Lib.hid h
  clear h
  go_enter Tryz.func31, Tryz.ntmps31
  go_wp2_with (go_at_call 53; refine (Bo.string_any B b l _ H.out hB).mono ?_; rintro e w1 ⟨rfl, h1, hb1, hk1⟩; skip; have H1 := Lib.hid h1; have HB1 := Lib.hid hb1; have HK1 := Lib.hid hk1; clear h1 hb1 hk1)
  go_ret
  exact ⟨rfl, H1.out, HB1.out, HK1.out⟩
theorem Bytes_eq (B b : Nat) (l : List UInt8) (t : ByteArray) (ht : (⟨l.toArray⟩ : ByteArray) = t) (w : World) (h : Bo.Read B b l w) (hB : B ≤ w.heap.size) :
    Calls Tryz.prog 31 #[.pointer (some ⟨b, 0, none⟩)] w fun e w' => e = .returned (.string t) ∧ Bo.Read B b l w' ∧ Below B w w' ∧ Bo.Kept w w' := ht ▸ Bytes_any B b l w h hB
end Go.Proofs.YtfaeigbfnjkojaaGreatDoor.Wi
namespace Go.Proofs.YtfaeigbfnjkojaaGreatDoor.Wi
open Go.RowKit Go.Proofs.YtfaeigbfnjkojaaGreatDoor.Ow
theorem blk_set {w : World} {b T : Nat} {cs : Array Value} (h : Rg.Blk w b T cs) (j : Nat) (v : Value) : Rg.Blk (w.setCell ⟨b, j, none⟩ v) b T (cs.setIfInBounds j v) := by
  unfold Rg.Blk at *
  rw [heap_setCell_same w b j _ _ _ h]
theorem grown_set {a w : World} {b : Nat} (h : a.grownBy w (some b)) (j : Nat) (v : Value) : a.grownBy (w.setCell ⟨b, j, none⟩ v) (some b) :=
  ⟨h.os, h.tape, h.output, by simpa [World.setCell] using h.size, fun k hk hne => (Below.heap_setCell w ⟨b, j, none⟩ v k (fun e => hne (congrArg some e))).trans (h.block k hk hne)⟩
theorem grown_below {a w b' : World} {row : Option Nat} (h : a.grownBy w row) (hb : Below w.heap.size w b') : a.grownBy b' row :=
  ⟨hb.os.trans h.os, hb.tape.trans h.tape, hb.output.trans h.output, Nat.le_trans h.size hb.size, fun k hk hne => (hb.block k (Nat.lt_of_lt_of_le hk h.size)).trans (h.block k hk hne)⟩
/-- the errors' values, by their numbers -/
structure Errs (w : World) (E : Nat → Value) : Prop where
  is : ∀ k, k ≠ 0 → ∃ a, E k = .iface 183 (.pointer (some a))
  big : w.cell? ⟨4, 0, none⟩ = some (E 4)
  form : w.cell? ⟨3, 0, none⟩ = some (E 3)
  stop : w.cell? ⟨2, 0, none⟩ = some (E 2)
/-- a block behind the errors' variables -/
def Gl (b : Nat) : Prop := 4 < b ∧ 3 < b ∧ 2 < b
theorem Errs.gl {w : World} {E : Nat → Value} (h : Errs w E) {b : Nat} (hb : w.heap.size ≤ b) : Gl b := by
  have h1 := World.block_lt_of_cell? w _ h.big
  have h2 := World.block_lt_of_cell? w _ h.form
  have h3 := World.block_lt_of_cell? w _ h.stop
  simp only at h1 h2 h3
  exact ⟨by omega, by omega, by omega⟩
def evV (E : Nat → Value) (c : Nat) : Value := if c = 0 then .nilIface else E c
theorem Errs.keep {w w' : World} {E : Nat → Value} {b : Nat} (h : Errs w E) (hg : w.grownBy w' (some b)) (hb : Gl b) : Errs w' E :=
  ⟨h.is, hg.cell h.big (by intro e; have := hb.1; simp at e; omega), hg.cell h.form (by intro e; have := hb.2.1; simp at e; omega), hg.cell h.stop (by intro e; have := hb.2.2; simp at e; omega)⟩
theorem Errs.below {w w' : World} {E : Nat → Value} (h : Errs w E) (hb : Below w.heap.size w w') : Errs w' E :=
  ⟨h.is, (hb.cell (World.block_lt_of_cell? w _ h.big)).trans h.big, (hb.cell (World.block_lt_of_cell? w _ h.form)).trans h.form, (hb.cell (World.block_lt_of_cell? w _ h.stop)).trans h.stop⟩
theorem evV_zero (E : Nat → Value) : evV E 0 = .nilIface := rfl
theorem evV_pos (E : Nat → Value) {c : Nat} (h : c ≠ 0) : evV E c = E c := if_neg h
/-- what Raw gives, and what it leaves -/
def rawR (s : ByteArray) (c : Nat) (n : Nat) : ByteArray := if c = 0 ∧ n ≤ s.size then s.extract 0 n else ⟨#[]⟩
def rawS (s : ByteArray) (c : Nat) (n : Nat) : ByteArray := if c = 0 then (if n ≤ s.size then s.extract n s.size else ⟨#[]⟩) else s
def rawC (s : ByteArray) (c : Nat) (n : Nat) : Nat := if c = 0 then (if n ≤ s.size then 0 else 2) else c
end Go.Proofs.YtfaeigbfnjkojaaGreatDoor.Wi
namespace Go.Proofs.YtfaeigbfnjkojaaGreatDoor.Wi
open Go.RowKit Go.Proofs.YtfaeigbfnjkojaaGreatDoor.Ow
def numV (l : List UInt8) : Nat := l.foldl (fun a x => a * 256 + x.toNat) 0
theorem numV_snoc (l : List UInt8) (x : UInt8) : numV (l ++ [x]) = numV l * 256 + x.toNat := by unfold numV; rw [List.foldl_append]; rfl
theorem fold_lt (l : List UInt8) : ∀ a, l.foldl (fun a (x : UInt8) => a * 256 + x.toNat) a < (a + 1) * 256 ^ l.length := by
  induction l with
  | nil => intro a; simp
  | cons x l ih =>
    intro a
    have hx := x.toNat_lt
    refine Nat.lt_of_lt_of_le (ih _) ?_
    rw [List.length_cons, Nat.pow_succ, Nat.mul_comm (256 ^ l.length) 256, ← Nat.mul_assoc]
    exact Nat.mul_le_mul_right _ (by show a * 256 + x.toNat + 1 ≤ _; omega)
theorem numV_lt (l : List UInt8) : numV l < 256 ^ l.length := by have := fold_lt l 0; unfold numV; omega
theorem or_byte (a x : Nat) (hx : x < 256) : a * 256 ||| x = a * 256 + x := by
  rw [show a * 256 = 2 ^ 8 * a by omega, Nat.two_pow_add_eq_or_of_lt (by simpa using hx)]
theorem num_next (l : List UInt8) (j : Nat) (x : UInt8) (hx : l[j]? = some x) (hj : j < 8) : numV (l.take (j + 1)) = numV (l.take j) * 256 + x.toNat := by
  rw [List.take_add_one, hx]; exact numV_snoc _ _
theorem rawR_size (s : ByteArray) (c n : Nat) : (rawR s c n).size ≤ n := by
  unfold rawR; split
  · rw [ByteArray.size_extract]; omega
  · exact Nat.zero_le _
theorem num1_lt (s : ByteArray) (c : Nat) : numV (rawR s c 1).data.toList < 256 := by
  have h := numV_lt (rawR s c 1).data.toList
  have h2 := rawR_size s c 1
  have h3 : 256 ^ (rawR s c 1).data.toList.length ≤ 256 ^ 1 := Nat.pow_le_pow_right (by decide) (by rw [Array.length_toList]; exact rawR_size s c 1)
  have h4 : (256 : Nat) ^ 1 = 256 := by decide
  omega
theorem num4_lt (s : ByteArray) (c : Nat) : numV (rawR s c 4).data.toList < 4294967296 := by
  have h := numV_lt (rawR s c 4).data.toList
  have h2 := rawR_size s c 4
  have h3 : 256 ^ (rawR s c 4).data.toList.length ≤ 256 ^ 4 := Nat.pow_le_pow_right (by decide) (by rw [Array.length_toList]; exact rawR_size s c 4)
  have h4 : (256 : Nat) ^ 4 = 4294967296 := by decide
  omega
theorem num8_lt (s : ByteArray) (c : Nat) : numV (rawR s c 8).data.toList < 18446744073709551616 := by
  have h := numV_lt (rawR s c 8).data.toList
  have h2 := rawR_size s c 8
  have h3 : 256 ^ (rawR s c 8).data.toList.length ≤ 256 ^ 8 := Nat.pow_le_pow_right (by decide) (by rw [Array.length_toList]; exact rawR_size s c 8)
  have h4 : (256 : Nat) ^ 8 = 18446744073709551616 := by decide
  omega
end Go.Proofs.YtfaeigbfnjkojaaGreatDoor.Wi
namespace Go.Proofs.YtfaeigbfnjkojaaGreatDoor.Wi
open Go.RowKit Go.Proofs.YtfaeigbfnjkojaaGreatDoor.Ow
def byteR (s : ByteArray) (c : Nat) : Nat := numV (rawR s c 1).data.toList
/-- Text's number of bytes -/
def txtN (s : ByteArray) (c : Nat) : Nat := numV (rawR s c 4).data.toList
def txtBig (s : ByteArray) (c : Nat) (most : Int) : Bool := decide (rawC s c 4 = 0 ∧ most < (txtN s c : Int))
def txtR (s : ByteArray) (c : Nat) (most : Int) : ByteArray := if txtBig s c most then ⟨#[]⟩ else rawR (rawS s c 4) (rawC s c 4) (txtN s c)
def txtS (s : ByteArray) (c : Nat) (most : Int) : ByteArray := if txtBig s c most then ⟨#[]⟩ else rawS (rawS s c 4) (rawC s c 4) (txtN s c)
def txtC (s : ByteArray) (c : Nat) (most : Int) : Nat := if txtBig s c most then 4 else rawC (rawS s c 4) (rawC s c 4) (txtN s c)
theorem rawS_size (s : ByteArray) (c n : Nat) : (rawS s c n).size ≤ s.size := by
  unfold rawS; split
  · split
    · rw [ByteArray.size_extract]; omega
    · exact Nat.zero_le _
  · exact Nat.le_refl _
/-- End: bytes that are left are an error, if there is none yet -/
def endC (s : ByteArray) (c : Nat) : Nat := if c = 0 ∧ s.size ≠ 0 then 3 else c
def endS (s : ByteArray) (c : Nat) : ByteArray := if c = 0 then ⟨#[]⟩ else s
theorem empty_of_size {s : ByteArray} (h : s.size = 0) : s = ⟨#[]⟩ := by
  apply ByteArray.ext; apply Array.toList_inj.1
  exact List.eq_nil_of_length_eq_zero (by rw [Array.length_toList]; exact h)
theorem toList_empty {s : ByteArray} (h : s.size = 0) : s.toList = [] := by rw [ByteArray.toList_eq, empty_of_size h]
theorem toList_ne {s : ByteArray} (h : s.size ≠ 0) : s.toList.isEmpty = false := by
  rw [List.isEmpty_eq_false_iff, ByteArray.toList_eq]
  intro e
  have := congrArg List.length e
  rw [Array.length_toList] at this
  exact h this
end Go.Proofs.YtfaeigbfnjkojaaGreatDoor.Wi
namespace Go.Proofs.YtfaeigbfnjkojaaGreatDoor.Wi
open Go.RowKit Go.Proofs.YtfaeigbfnjkojaaGreatDoor.Ow
def okB (x : UInt8) : Bool := decide (33 ≤ x.toNat) && decide (x.toNat ≤ 126) && decide (x.toNat ≠ 44)
def nameB (l : List UInt8) : Bool := l.all okB && decide (0 < l.length) && decide (l.length ≤ 64)
theorem all_take_succ (l : List UInt8) (k : Nat) (x : UInt8) (hx : l[k]? = some x) (h : (l.take k).all okB = true) (ho : okB x = true) : (l.take (k + 1)).all okB = true := by
  rw [List.take_add_one, hx, List.all_append, h]; simp [ho]
theorem nameB_bad (l : List UInt8) (k : Nat) (x : UInt8) (hx : l[k]? = some x) (ho : okB x = false) : nameB l = false := by
  have : l.all okB = false := by
    rw [Bool.eq_false_iff]
    intro h
    have := List.all_eq_true.1 h x (List.mem_of_getElem? hx)
    rw [ho] at this; cases this
  unfold nameB; rw [this]; rfl
theorem get_list (s : ByteArray) (k : Nat) (h : k < s.size) : s.data.toList[k]? = some s[k] := by rw [List.getElem?_eq_getElem (by rw [Array.length_toList]; exact h)]; rfl
end Go.Proofs.YtfaeigbfnjkojaaGreatDoor.Wi
