/- wire.Out: what each call writes. wire.Out: numbers, texts, names, big numbers; its bytes. wire.In: raw bytes and numbers. wire.In: numbers. wire.In: texts; what is left; the end. Names: of the program, and of the reference. -/
import Derived.Test.YtjfikbnfabdkoaaGreatDoorGenB
import Derived.Test.YtjfikbnfabdkoaaGreatDoorGenA
import Derived.Test.YtjfikbnfabdkoaaGreatDoorShelf
import Derived.Lib.Hide
import Derived.Lib.Join
import Derived.Lib.TrimByte
import Derived.WalkLawsBesides
import Derived.WideLaws
set_option linter.unusedVariables false
set_option linter.unusedSimpArgs false
namespace Go.Proofs.YtjfikbnfabdkoaaGreatDoor.Wi
open Go.RowKit Go.Proofs.YtjfikbnfabdkoaaGreatDoor.Ow Go.Proofs.YtjfikbnfabdkoaaGreatDoor.Be
/-- block b is an Out with the bytes l -/
def IsOut (B b : Nat) (l : List UInt8) (w : World) : Prop := Lib.IsBuilder 81 5 B b (bv l) w
def Wrote (B b : Nat) (l : List UInt8) (w : World) (e : Ending) (w' : World) : Prop := e = .returned (.pointer (some ⟨b, 0, none⟩)) ∧ IsOut B b l w' ∧ Bo.Calm B b w w'
theorem outFresh (w : World) : IsOut w.heap.size w.heap.size [] (w.alloc (.cells #[.pointer none, .slice none 0 0] 81)) := Bo.fresh w
theorem at_below {B b : Nat} {p : Value} {bs : List Value} {w w' : World} (h : Lib.BuilderAt 81 5 B b p bs w) (hb : Below w.heap.size w w') : Lib.BuilderAt 81 5 B b p bs w' := by
  have hlt := h.lt
  obtain ⟨hB, v, hbk, hown, hne⟩ := h
  exact ⟨hB, v, (hb.block b hlt).trans hbk, World.ownsRow.kept hown (row := none) ⟨hb.os, hb.tape, hb.output, hb.size, fun k hk _ => hb.block k hk⟩ (by cases hv : v.ownBlock <;> simp), hne⟩
theorem IsOut.below {B b : Nat} {l : List UInt8} {w w' : World} (h : IsOut B b l w) (hb : Below w.heap.size w w') : IsOut B b l w' := by
  rcases h with h | h
  · exact .inl (at_below h hb)
  · exact .inr (at_below h hb)
theorem bv_snoc (l : List UInt8) (c : UInt8) (x : Int) (h : x = c.toNat) : bv l ++ [.int .u8 x] = bv (l ++ [c]) := by rw [bv_append, bv_one c x h]
theorem strCells_eq (s : ByteArray) : Lib.strCells s = bv s.data.toList := rfl
set_option maxHeartbeats 400000 in
theorem Byte_any (B b : Nat) (l : List UInt8) (c : UInt8) (x : Int) (hx : x = c.toNat) (w : World) (h : IsOut B b l w) (hl : l.length + 1 ≤ 140737488355328) (hB : B ≤ w.heap.size) :
    Calls Tryz.prog 37 #[.pointer (some ⟨b, 0, none⟩), .int .u8 x] w (Wrote B b (l ++ [c]) w) := by
  have H := Lib.hid h
  have HX := Lib.hid hx
  clear h hx
  go_enter Tryz.func37, Tryz.ntmps37
  go_wp2_with (go_at_call 64; refine (Bo.writeByte B b _ _ _ H.out (by rw [bv_length]; exact hl) hB).mono ?_; rintro e w1 ⟨rfl, h1, hb1⟩; skip; have H1 := Lib.hid h1; have HB1 := Lib.hid hb1; clear h1 hb1)
  go_ret
  exact ⟨rfl, .inr ((bv_snoc l c x HX.out) ▸ H1.out), HB1.out⟩
theorem Bool_any (B b : Nat) (l : List UInt8) (c : Bool) (w : World) (h : IsOut B b l w) (hl : l.length + 1 ≤ 140737488355328) (hB : B ≤ w.heap.size) :
    Calls Tryz.prog 40 #[.pointer (some ⟨b, 0, none⟩), .bool c] w (Wrote B b (l ++ [if c then 1 else 0]) w) := by
  have H := Lib.hid h
  clear h
  cases c
  · go_enter Tryz.func40, Tryz.ntmps40
    go_wp2_with (go_at_call 37; refine (Byte_any B b l 0 0 rfl _ H.out hl hB).mono ?_; rintro e w1 ⟨rfl, h1, hb1⟩; skip; have H1 := Lib.hid h1; have HB1 := Lib.hid hb1; clear h1 hb1)
    go_ret
    exact ⟨rfl, H1.out, HB1.out⟩
  · go_enter Tryz.func40, Tryz.ntmps40
    go_wp2_with (go_at_call 37; refine (Byte_any B b l 1 1 rfl _ H.out hl hB).mono ?_; rintro e w1 ⟨rfl, h1, hb1⟩; skip; have H1 := Lib.hid h1; have HB1 := Lib.hid hb1; clear h1 hb1)
    go_ret
    exact ⟨rfl, H1.out, HB1.out⟩
set_option maxHeartbeats 400000 in
theorem Raw_any (B b : Nat) (l : List UInt8) (s : ByteArray) (w : World) (h : IsOut B b l w) (hl : l.length + s.size ≤ 140737488355328) (hB : B ≤ w.heap.size) :
    Calls Tryz.prog 46 #[.pointer (some ⟨b, 0, none⟩), .string s] w (Wrote B b (l ++ s.data.toList) w) := by
  have H := Lib.hid h
  clear h
  go_enter Tryz.func46, Tryz.ntmps46
  go_wp2_with (go_at_call 67; refine (Bo.writeString B b _ s _ H.out (by rw [bv_length]; exact hl) hB).mono ?_; rintro e w1 ⟨rfl, h1, hb1⟩; skip; have H1 := Lib.hid h1; have HB1 := Lib.hid hb1; clear h1 hb1)
  go_ret
  exact ⟨rfl, .inr (by have := H1.out; rw [strCells_eq, ← bv_append] at this; exact this), HB1.out⟩
set_option maxRecDepth 20000 in
set_option maxHeartbeats 1000000 in
theorem put4_any (B b : Nat) (l : List UInt8) (n : Nat) (hn : n < 18446744073709551616) (w : World) (h : IsOut B b l w) (hl : l.length + 4 ≤ 140737488355328) (hB : B ≤ w.heap.size) :
    Calls Tryz.prog 65 #[.pointer (some ⟨b, 0, none⟩), .int .u64 n, .int .i64 4] w (Wrote B b (l ++ be 4 n) w) := by
  have H := Lib.hid (show IsOut B b (l ++ (be 4 n).take 0) w by rw [List.take_zero, List.append_nil]; exact h)
  clear h
  go_enter Tryz.func65, Tryz.ntmps65
  go_wp2_with fail
  go_loopw [7] (fun i wr => ∃ k : Nat, k ≤ 4 ∧ i = .int .i64 (3 - (k : Int)) ∧ IsOut B b (l ++ (be 4 n).take k) wr ∧ Bo.Calm B b w wr) (fun i _ => (intOf i + 1).toNat)
  case atStart => exact ⟨0, Nat.zero_le _, rfl, H.out, Bo.Calm.refl _ _ _⟩
  case round =>
    obtain ⟨k, hk, rfl, hO, hb⟩ := hrel
    have HO := Lib.hid hO
    have HB := Lib.hid hb
    have hszb := hb.size
    clear hO hb H
    by_cases hkm : k < 4
    · have hi0 : (0 : Int) ≤ 3 - (k : Int) := by omega
      have hi1 : (0 : Int) ≤ 8 * (3 - (k : Int)) := by omega
      have hmn : min (8 * (3 - (k : Int))).toNat 64 = 8 * (3 - k) := by omega
      have HV := Lib.hid (byte_val 4 n k (8 * (3 - k)) (by omega))
      have HT := Lib.hid (be_take 4 n k hkm)
      have hll : (l ++ (be 4 n).take k).length + 1 ≤ 140737488355328 := by rw [List.length_append, List.length_take]; omega
      go_wp2_with fail
      refine Rg.wp_region_later wr.heap.size 8 (by kernel_rfl) (by kernel_rfl) ?_
      simp only [List.take_succ_cons, List.take_zero, List.drop_succ_cons, List.drop_zero]
      repeat (go_big_quiet_step (fail))
      refine wpQuiet_nil ?_
      rintro _ ⟨s8, rfl⟩
      have hs8 := s8.is.size
      have HO8 := Lib.hid (show IsOut B b (l ++ (be 4 n).take k) s8.val from HO.out.below s8.is)
      go_wp2_with (go_at_call 64; refine (Bo.writeByte B b _ _ _ HO8.out (by rw [bv_length]; exact hll) (by omega)).mono ?_; rintro e w1 ⟨rfl, h1, hb1⟩; skip; have H1 := Lib.hid h1; have HB1 := Lib.hid hb1; clear h1 hb1)
      go_roundw
      case rel =>
        have h1 := H1.out
        rw [bv_snoc _ _ _ HV.out.symm, List.append_assoc, ← HT.out] at h1
        have hb' : Bo.Calm B b w w1 := (HB.out.trans (Bo.Calm.of s8.is (by omega))).trans HB1.out
        first
          | exact ⟨k + 1, by omega, by go_num, .inr h1, hb'⟩
          | ((repeat apply Exists.intro); refine ⟨?_, rfl⟩; exact ⟨k + 1, by omega, by go_num, .inr h1, hb'⟩)
      case measure => simp [intOf]; omega
    · obtain rfl : k = 4 := by omega
      have HF := Lib.hid (show IsOut B b (l ++ be 4 n) wr by have := HO.out; rwa [List.take_of_length_le (Nat.le_of_eq (be_length _ _))] at this)
      go_wp2_with fail
      go_ret
      exact ⟨rfl, HF.out, HB.out⟩
set_option maxRecDepth 20000 in
set_option maxHeartbeats 1000000 in
theorem put8_any (B b : Nat) (l : List UInt8) (n : Nat) (hn : n < 18446744073709551616) (w : World) (h : IsOut B b l w) (hl : l.length + 8 ≤ 140737488355328) (hB : B ≤ w.heap.size) :
    Calls Tryz.prog 65 #[.pointer (some ⟨b, 0, none⟩), .int .u64 n, .int .i64 8] w (Wrote B b (l ++ be 8 n) w) := by
  have H := Lib.hid (show IsOut B b (l ++ (be 8 n).take 0) w by rw [List.take_zero, List.append_nil]; exact h)
  clear h
  go_enter Tryz.func65, Tryz.ntmps65
  go_wp2_with fail
  go_loopw [7] (fun i wr => ∃ k : Nat, k ≤ 8 ∧ i = .int .i64 (7 - (k : Int)) ∧ IsOut B b (l ++ (be 8 n).take k) wr ∧ Bo.Calm B b w wr) (fun i _ => (intOf i + 1).toNat)
  case atStart => exact ⟨0, Nat.zero_le _, rfl, H.out, Bo.Calm.refl _ _ _⟩
  case round =>
    obtain ⟨k, hk, rfl, hO, hb⟩ := hrel
    have HO := Lib.hid hO
    have HB := Lib.hid hb
    have hszb := hb.size
    clear hO hb H
    by_cases hkm : k < 8
    · have hi0 : (0 : Int) ≤ 7 - (k : Int) := by omega
      have hi1 : (0 : Int) ≤ 8 * (7 - (k : Int)) := by omega
      have hmn : min (8 * (7 - (k : Int))).toNat 64 = 8 * (7 - k) := by omega
      have HV := Lib.hid (byte_val 8 n k (8 * (7 - k)) (by omega))
      have HT := Lib.hid (be_take 8 n k hkm)
      have hll : (l ++ (be 8 n).take k).length + 1 ≤ 140737488355328 := by rw [List.length_append, List.length_take]; omega
      go_wp2_with fail
      refine Rg.wp_region_later wr.heap.size 8 (by kernel_rfl) (by kernel_rfl) ?_
      simp only [List.take_succ_cons, List.take_zero, List.drop_succ_cons, List.drop_zero]
      repeat (go_big_quiet_step (fail))
      refine wpQuiet_nil ?_
      rintro _ ⟨s8, rfl⟩
      have hs8 := s8.is.size
      have HO8 := Lib.hid (show IsOut B b (l ++ (be 8 n).take k) s8.val from HO.out.below s8.is)
      go_wp2_with (go_at_call 64; refine (Bo.writeByte B b _ _ _ HO8.out (by rw [bv_length]; exact hll) (by omega)).mono ?_; rintro e w1 ⟨rfl, h1, hb1⟩; skip; have H1 := Lib.hid h1; have HB1 := Lib.hid hb1; clear h1 hb1)
      go_roundw
      case rel =>
        have h1 := H1.out
        rw [bv_snoc _ _ _ HV.out.symm, List.append_assoc, ← HT.out] at h1
        have hb' : Bo.Calm B b w w1 := (HB.out.trans (Bo.Calm.of s8.is (by omega))).trans HB1.out
        first
          | exact ⟨k + 1, by omega, by go_num, .inr h1, hb'⟩
          | ((repeat apply Exists.intro); refine ⟨?_, rfl⟩; exact ⟨k + 1, by omega, by go_num, .inr h1, hb'⟩)
      case measure => simp [intOf]; omega
    · obtain rfl : k = 8 := by omega
      have HF := Lib.hid (show IsOut B b (l ++ be 8 n) wr by have := HO.out; rwa [List.take_of_length_le (Nat.le_of_eq (be_length _ _))] at this)
      go_wp2_with fail
      go_ret
      exact ⟨rfl, HF.out, HB.out⟩
end Go.Proofs.YtjfikbnfabdkoaaGreatDoor.Wi
namespace Go.Proofs.YtjfikbnfabdkoaaGreatDoor.Wi
open Go.RowKit Go.Proofs.YtjfikbnfabdkoaaGreatDoor.Ow Go.Proofs.YtjfikbnfabdkoaaGreatDoor.Be
def textL (l : List UInt8) : List UInt8 := be 4 l.length ++ l
def strip (l : List UInt8) : List UInt8 := l.dropWhile (· == 0)
def bigL (l : List UInt8) : List UInt8 := if 128 ≤ ((strip l).headD 0).toNat then 0 :: strip l else strip l
def joinC (xs : List ByteArray) : List UInt8 := Lib.join (xs.map (·.data.toList)) [44]
theorem IsOut.lt {B b : Nat} {l : List UInt8} {w : World} (h : IsOut B b l w) : b < w.heap.size := h.elim Lib.BuilderAt.lt Lib.BuilderAt.lt
theorem len_list (s : ByteArray) : s.data.toList.length = s.size := Array.length_toList
theorem strip_length (l : List UInt8) : (strip l).length ≤ l.length := (List.dropWhile_sublist _).length_le
theorem bigL_length (l : List UInt8) : (bigL l).length ≤ l.length + 1 := by
  have := strip_length l
  unfold bigL; split
  · simp; omega
  · omega
theorem U32_any (B b : Nat) (l : List UInt8) (n : Nat) (hn : n < 4294967296) (w : World) (h : IsOut B b l w) (hl : l.length + 4 ≤ 140737488355328) (hB : B ≤ w.heap.size) :
    Calls Tryz.prog 38 #[.pointer (some ⟨b, 0, none⟩), .int .u32 n] w (Wrote B b (l ++ be 4 n) w) := by
  have H := Lib.hid h
  clear h
  go_enter Tryz.func38, Tryz.ntmps38
  go_wp2_with (go_at_call 65; refine (put4_any B b l n (by omega) _ H.out hl hB).mono ?_; rintro e w1 ⟨rfl, h1, hb1⟩; skip; have H1 := Lib.hid h1; have HB1 := Lib.hid hb1; clear h1 hb1)
  go_ret
  exact ⟨rfl, H1.out, HB1.out⟩
theorem Text_any (B b : Nat) (l : List UInt8) (s : ByteArray) (hs : s.size < 4294967296) (w : World) (h : IsOut B b l w) (hl : l.length + 4 + s.size ≤ 140737488355328) (hB : B ≤ w.heap.size) :
    Calls Tryz.prog 42 #[.pointer (some ⟨b, 0, none⟩), .string s] w (Wrote B b (l ++ textL s.data.toList) w) := by
  have H := Lib.hid h
  clear h
  go_enter Tryz.func42, Tryz.ntmps42
  go_wp2_with (first
    | (go_at_call 38; refine (U32_any B b l s.size hs _ H.out (by omega) hB).mono ?_; rintro e w1 ⟨rfl, h1, hb1⟩; skip; have H1 := Lib.hid h1; have HB1 := Lib.hid hb1; clear h1 hb1)
    | (go_at_call 46; refine (Raw_any B b (l ++ be 4 s.size) s _ H1.out (by rw [List.length_append, be_length]; exact hl) (by have := HB1.out.size; omega)).mono ?_; rintro e w2 ⟨rfl, h2, hb2⟩; skip; have H2 := Lib.hid h2; have HB2 := Lib.hid hb2; clear h2 hb2))
  go_ret
  refine ⟨rfl, ?_, HB1.out.trans HB2.out⟩
  have h2 := H2.out
  unfold textL
  rw [len_list, ← List.append_assoc]
  exact h2
theorem Names_any (B b : Nat) (l : List UInt8) (A : Option Addr) (n c : Nat) (xs : List ByteArray) (hn : xs.length = n) (hc : n ≤ c) (hN : n ≤ 1000000) (w : World) (hR : Rd w A (xs.map Value.string)) (hj : (joinC xs).length < 4294967296) (h : IsOut B b l w) (hl : l.length + 4 + (joinC xs).length ≤ 140737488355328) (hB : B ≤ w.heap.size) :
    Calls Tryz.prog 44 #[.pointer (some ⟨b, 0, none⟩), .slice A n c] w (Wrote B b (l ++ textL (joinC xs)) w) := by
  subst hn
  have H := Lib.hid h
  have HJ : Hid (Calls Tryz.prog 66 #[.slice A xs.length c, .string ⟨#[44]⟩] w fun e w' => e = .returned (.string ⟨(joinC xs).toArray⟩) ∧ Below w.heap.size w w') := Lib.hid (by
    by_cases h0 : xs = []
    · subst h0
      refine (Tryz.strings_Join_none A c ⟨#[44]⟩ w).mono ?_
      rintro e w' ⟨rfl, rfl⟩
      exact ⟨rfl, Below.refl _ _⟩
    · obtain ⟨bk, o, rfl, hlt, hx⟩ := hR.place (by rw [List.length_map]; exact List.length_pos_iff.2 h0)
      exact Tryz.strings_Join bk o c xs ⟨#[44]⟩ w (fun j x hj => hx j _ (by rw [List.getElem?_map, hj]; rfl)) hlt (by omega) hc (by show (joinC xs).length ≤ _; omega))
  have hsz : (⟨(joinC xs).toArray⟩ : ByteArray).size = (joinC xs).length := List.size_toArray
  have HL := Lib.hid (show (⟨(joinC xs).toArray⟩ : ByteArray).data.toList = joinC xs from rfl)
  have HSZ := Lib.hid hsz
  clear h hR hsz
  go_enter Tryz.func44, Tryz.ntmps44
  go_wp2_with (first
    | (go_at_call 66; refine HJ.out.mono ?_; rintro e w1 ⟨rfl, hb1⟩; skip; have HB1 := Lib.hid hb1; have H1 := Lib.hid (H.out.below hb1); clear hb1; generalize (⟨(joinC xs).toArray⟩ : ByteArray) = t at *)
    | (go_at_call 42; refine (Text_any B b l t (by rw [HSZ.out]; exact hj) _ H1.out (by rw [HSZ.out]; exact hl) (by have := HB1.out.size; omega)).mono ?_; rintro e w2 ⟨rfl, h2, hb2⟩; skip; have H2 := Lib.hid h2; have HB2 := Lib.hid hb2; clear h2 hb2))
  go_ret
  exact ⟨rfl, by have := H2.out; rw [HL.out] at this; exact this, (Bo.Calm.of HB1.out hB).trans HB2.out⟩
theorem head_get (s : ByteArray) (h : 0 < s.size) : (s.data.toList.headD 0) = s[0] := by
  obtain ⟨⟨l⟩⟩ := s
  cases l with
  | nil => exact absurd h (Nat.lt_irrefl 0)
  | cons x l => rfl
theorem Bytes_any (B b : Nat) (l : List UInt8) (w : World) (h : Bo.Read B b l w) (hB : B ≤ w.heap.size) :
    Calls Tryz.prog 47 #[.pointer (some ⟨b, 0, none⟩)] w fun e w' => e = .returned (.string ⟨l.toArray⟩) ∧ Bo.Read B b l w' ∧ Below B w w' ∧ Bo.Kept w w' := by
  have H := Lib.hid h
  clear h
  go_enter Tryz.func47, Tryz.ntmps47
  go_wp2_with (go_at_call 68; refine (Bo.string_any B b l _ H.out hB).mono ?_; rintro e w1 ⟨rfl, h1, hb1, hk1⟩; skip; have H1 := Lib.hid h1; have HB1 := Lib.hid hb1; have HK1 := Lib.hid hk1; clear h1 hb1 hk1)
  go_ret
  exact ⟨rfl, H1.out, HB1.out, HK1.out⟩
theorem Bytes_eq (B b : Nat) (l : List UInt8) (t : ByteArray) (ht : (⟨l.toArray⟩ : ByteArray) = t) (w : World) (h : Bo.Read B b l w) (hB : B ≤ w.heap.size) :
    Calls Tryz.prog 47 #[.pointer (some ⟨b, 0, none⟩)] w fun e w' => e = .returned (.string t) ∧ Bo.Read B b l w' ∧ Below B w w' ∧ Bo.Kept w w' := ht ▸ Bytes_any B b l w h hB
end Go.Proofs.YtjfikbnfabdkoaaGreatDoor.Wi
namespace Go.Proofs.YtjfikbnfabdkoaaGreatDoor.Wi
open Go.RowKit Go.Proofs.YtjfikbnfabdkoaaGreatDoor.Ow
/-- block b is an In with the text s and the error e -/
def IsIn (w : World) (b : Nat) (s : ByteArray) (e : Value) : Prop := Rg.Blk w b 114 #[.string s, e]
theorem blk_set {w : World} {b T : Nat} {cs : Array Value} (h : Rg.Blk w b T cs) (j : Nat) (v : Value) : Rg.Blk (w.setCell ⟨b, j, none⟩ v) b T (cs.setIfInBounds j v) := by
  unfold Rg.Blk at *
  rw [heap_setCell_same w b j _ _ _ h]
theorem grown_set {a w : World} {b : Nat} (h : a.grownBy w (some b)) (j : Nat) (v : Value) : a.grownBy (w.setCell ⟨b, j, none⟩ v) (some b) :=
  ⟨h.os, h.tape, h.output, by simpa [World.setCell] using h.size, fun k hk hne => (Below.heap_setCell w ⟨b, j, none⟩ v k (fun e => hne (congrArg some e))).trans (h.block k hk hne)⟩
theorem grown_below {a w b' : World} {row : Option Nat} (h : a.grownBy w row) (hb : Below w.heap.size w b') : a.grownBy b' row :=
  ⟨hb.os.trans h.os, hb.tape.trans h.tape, hb.output.trans h.output, Nat.le_trans h.size hb.size, fun k hk hne => (hb.block k (Nat.lt_of_lt_of_le hk h.size)).trans (h.block k hk hne)⟩
/-- the errors' values, by their numbers -/
structure Errs (w : World) (E : Nat → Value) : Prop where
  is : ∀ k, k ≠ 0 → ∃ a, E k = .iface 162 (.pointer (some a))
  big : w.cell? ⟨5, 0, none⟩ = some (E 4)
  form : w.cell? ⟨4, 0, none⟩ = some (E 3)
  stop : w.cell? ⟨3, 0, none⟩ = some (E 2)
/-- a block behind the errors' variables -/
def Gl (b : Nat) : Prop := 5 < b ∧ 4 < b ∧ 3 < b
theorem Errs.gl {w : World} {E : Nat → Value} (h : Errs w E) {b : Nat} (hb : w.heap.size ≤ b) : Gl b := by
  have h1 := World.block_lt_of_cell? w _ h.big
  have h2 := World.block_lt_of_cell? w _ h.form
  have h3 := World.block_lt_of_cell? w _ h.stop
  simp only at h1 h2 h3
  exact ⟨by omega, by omega, by omega⟩
def evV (E : Nat → Value) (c : Nat) : Value := if c = 0 then .nilIface else E c
theorem Errs.keep {w w' : World} {E : Nat → Value} {b : Nat} (h : Errs w E) (hg : w.grownBy w' (some b)) (hb : Gl b) : Errs w' E :=
  ⟨h.is, hg.cell h.big (by intro e; have := hb.1; simp at e; omega), hg.cell h.form (by intro e; have := hb.2.1; simp at e; omega), hg.cell h.stop (by intro e; have := hb.2.2; simp at e; omega)⟩
theorem Errs.below {w w' : World} {E : Nat → Value} (h : Errs w E) (hb : Below w.heap.size w w') : Errs w' E :=
  ⟨h.is, (hb.cell (World.block_lt_of_cell? w _ h.big)).trans h.big, (hb.cell (World.block_lt_of_cell? w _ h.form)).trans h.form, (hb.cell (World.block_lt_of_cell? w _ h.stop)).trans h.stop⟩
theorem evV_zero (E : Nat → Value) : evV E 0 = .nilIface := rfl
theorem evV_pos (E : Nat → Value) {c : Nat} (h : c ≠ 0) : evV E c = E c := if_neg h
/-- fail at an In that has no error yet -/
theorem fail_none (w : World) (b : Nat) (s : ByteArray) (t : TypeId) (x : Value) (h : IsIn w b s .nilIface) :
    Calls Tryz.prog 59 #[.pointer (some ⟨b, 0, none⟩), .iface t x] w fun e w' => e = .returned (.tuple #[]) ∧ IsIn w' b ⟨#[]⟩ (.iface t x) ∧ w.grownBy w' (some b) := by
  have h0 := h.cell 0 (v := .string s) rfl
  have h1 := h.cell 1 (v := .nilIface) rfl
  have f0 := h.frozen 0
  have f1 := h.frozen 1
  have HF := Lib.hid (show IsIn ((w.setCell ⟨b, 0, none⟩ (.string ⟨#[]⟩)).setCell ⟨b, 1, none⟩ (.iface t x)) b ⟨#[]⟩ (.iface t x) from blk_set (blk_set h 0 _) 1 _)
  have HG := Lib.hid (show w.grownBy ((w.setCell ⟨b, 0, none⟩ (.string ⟨#[]⟩)).setCell ⟨b, 1, none⟩ (.iface t x)) (some b) from grown_set (grown_set (World.grownBy.refl w _) 0 _) 1 _)
  clear h
  go_enter Tryz.func59, Tryz.ntmps59
  go_wp2
  go_end0
  exact ⟨rfl, HF.out, HG.out⟩
theorem fail_some (w : World) (b : Nat) (s : ByteArray) (t : TypeId) (x v : Value) (h : IsIn w b s (.iface t x)) :
    Calls Tryz.prog 59 #[.pointer (some ⟨b, 0, none⟩), v] w fun e w' => e = .returned (.tuple #[]) ∧ w = w' := by
  have h1 := h.cell 1 (v := .iface t x) rfl
  clear h
  go_enter Tryz.func59, Tryz.ntmps59
  go_wp2
  go_end0
  exact ⟨rfl, rfl⟩
/-- what Raw gives, and what it leaves -/
def rawR (s : ByteArray) (c : Nat) (n : Nat) : ByteArray := if c = 0 ∧ n ≤ s.size then s.extract 0 n else ⟨#[]⟩
def rawS (s : ByteArray) (c : Nat) (n : Nat) : ByteArray := if c = 0 then (if n ≤ s.size then s.extract n s.size else ⟨#[]⟩) else s
def rawC (s : ByteArray) (c : Nat) (n : Nat) : Nat := if c = 0 then (if n ≤ s.size then 0 else 2) else c
/-- an In call's answer: the value, the text that is left, the error's number -/
def Gave (E : Nat → Value) (b : Nat) (w : World) (v : Value) (s : ByteArray) (c : Nat) (e : Ending) (w' : World) : Prop := e = .returned v ∧ IsIn w' b s (evV E c) ∧ w.grownBy w' (some b)
set_option maxHeartbeats 1000000 in
theorem InRaw_any (w : World) (E : Nat → Value) (b : Nat) (s : ByteArray) (c : Nat) (n : Int) (hn : n ≤ 9223372036854775807) (hs : s.size ≤ 9223372036854775807) (hE : Errs w E) (hb : Gl b) (h : IsIn w b s (evV E c)) :
    Calls Tryz.prog 33 #[.pointer (some ⟨b, 0, none⟩), .int .i64 n] w (Gave E b w (.string (rawR s c n.toNat)) (rawS s c n.toNat) (rawC s c n.toNat)) := by
  have H := Lib.hid h
  have HE := Lib.hid hE
  obtain ⟨m, hm⟩ : ∃ m : Nat, max n 0 = (m : Int) := ⟨n.toNat, by omega⟩
  have hm2 : n.toNat = m := by omega
  rw [hm2]
  have hml : m ≤ 9223372036854775807 := by omega
  by_cases hc : c = 0
  · subst hc
    have h0 := H.out.cell 0 (v := .string s) rfl
    have h1 : w.cell? ⟨b, 1, none⟩ = some .nilIface := H.out.cell 1 rfl
    by_cases hms : m ≤ s.size
    · have HR := Lib.hid (show rawR s 0 m = s.extract 0 m ∧ rawS s 0 m = s.extract m s.size ∧ rawC s 0 m = 0 from ⟨if_pos ⟨rfl, hms⟩, by unfold rawS; rw [if_pos rfl, if_pos hms], by unfold rawC; rw [if_pos rfl, if_pos hms]⟩)
      have f0 := H.out.frozen 0
      have HF := Lib.hid (show IsIn (w.setCell ⟨b, 0, none⟩ (.string (s.extract m s.size))) b (s.extract m s.size) .nilIface from blk_set H.out 0 _)
      have HG := Lib.hid (show w.grownBy (w.setCell ⟨b, 0, none⟩ (.string (s.extract m s.size))) (some b) from grown_set (World.grownBy.refl w _) 0 _)
      have hd : (m : Int) ≤ s.size := by omega
      clear h hE hm2 hn
      go_enter Tryz.func33, Tryz.ntmps33
      go_wp2
      go_ret
      exact ⟨by rw [HR.out.1]; rfl, by rw [HR.out.2.1, HR.out.2.2]; exact HF.out, HG.out⟩
    · have HR := Lib.hid (show rawR s 0 m = ⟨#[]⟩ ∧ rawS s 0 m = ⟨#[]⟩ ∧ rawC s 0 m = 2 from ⟨if_neg fun e => hms e.2, by unfold rawS; rw [if_pos rfl, if_neg hms], by unfold rawC; rw [if_pos rfl, if_neg hms]⟩)
      obtain ⟨a2, ha2⟩ := hE.is 2 (by decide)
      have hst := hE.stop
      rw [ha2] at hst
      have HA := Lib.hid ha2
      have hd : ¬ (m : Int) ≤ s.size := by omega
      have hd2 : (s.size : Int) < m := by omega
      clear h hE hm2 hn ha2 hms
      go_enter Tryz.func33, Tryz.ntmps33
      go_wp2_with (go_at_call 59; refine (fail_none w b s _ _ H.out).mono ?_; rintro e w1 ⟨rfl, h1', hg1⟩; skip; have H1 := Lib.hid h1'; have HG := Lib.hid hg1; clear h1' hg1)
      go_ret
      refine ⟨by rw [HR.out.1]; rfl, ?_, HG.out⟩
      rw [HR.out.2.1, HR.out.2.2]
      have := H1.out
      rw [← HA.out] at this
      exact this
  · have HR := Lib.hid (show rawR s c m = ⟨#[]⟩ ∧ rawS s c m = s ∧ rawC s c m = c from ⟨if_neg fun e => hc e.1, if_neg hc, if_neg hc⟩)
    obtain ⟨a2, ha2⟩ := hE.is 2 (by decide)
    have hst := hE.stop
    rw [ha2] at hst
    obtain ⟨ac, hac⟩ := hE.is c hc
    have hev : evV E c = .iface 162 (.pointer (some ac)) := by rw [evV_pos E hc, hac]
    rw [hev] at h
    have H' := Lib.hid h
    have h1 : w.cell? ⟨b, 1, none⟩ = some (.iface 162 (.pointer (some ac))) := h.cell 1 rfl
    clear h hE hm2 hn ha2 hac hev hc
    go_enter Tryz.func33, Tryz.ntmps33
    go_wp2_with (go_at_call 59; refine (fail_some w b s _ _ _ H'.out).mono ?_; rintro e w1 ⟨rfl, rfl⟩; skip)
    go_ret
    exact ⟨by rw [HR.out.1]; rfl, by rw [HR.out.2.1, HR.out.2.2]; exact H.out, World.grownBy.refl _ _⟩
end Go.Proofs.YtjfikbnfabdkoaaGreatDoor.Wi
namespace Go.Proofs.YtjfikbnfabdkoaaGreatDoor.Wi
open Go.RowKit Go.Proofs.YtjfikbnfabdkoaaGreatDoor.Ow
def numV (l : List UInt8) : Nat := l.foldl (fun a x => a * 256 + x.toNat) 0
theorem numV_snoc (l : List UInt8) (x : UInt8) : numV (l ++ [x]) = numV l * 256 + x.toNat := by unfold numV; rw [List.foldl_append]; rfl
theorem fold_lt (l : List UInt8) : ∀ a, l.foldl (fun a (x : UInt8) => a * 256 + x.toNat) a < (a + 1) * 256 ^ l.length := by
  induction l with
  | nil => intro a; simp
  | cons x l ih =>
    intro a
    have hx := x.toNat_lt
    refine Nat.lt_of_lt_of_le (ih _) ?_
    rw [List.length_cons, Nat.pow_succ, Nat.mul_comm (256 ^ l.length) 256, ← Nat.mul_assoc]
    exact Nat.mul_le_mul_right _ (by show a * 256 + x.toNat + 1 ≤ _; omega)
theorem numV_lt (l : List UInt8) : numV l < 256 ^ l.length := by have := fold_lt l 0; unfold numV; omega
theorem or_byte (a x : Nat) (hx : x < 256) : a * 256 ||| x = a * 256 + x := by
  rw [show a * 256 = 2 ^ 8 * a by omega, Nat.two_pow_add_eq_or_of_lt (by simpa using hx)]
theorem num_next (l : List UInt8) (j : Nat) (x : UInt8) (hx : l[j]? = some x) (hj : j < 8) : numV (l.take (j + 1)) = numV (l.take j) * 256 + x.toNat := by
  rw [List.take_add_one, hx]; exact numV_snoc _ _
theorem rawR_size (s : ByteArray) (c n : Nat) : (rawR s c n).size ≤ n := by
  unfold rawR; split
  · rw [ByteArray.size_extract]; omega
  · exact Nat.zero_le _
set_option maxHeartbeats 1000000 in
theorem InNum_any (w : World) (E : Nat → Value) (b : Nat) (s : ByteArray) (c k : Nat) (hk : k ≤ 8) (hs : s.size ≤ 9223372036854775807) (hE : Errs w E) (hb : Gl b) (h : IsIn w b s (evV E c)) :
    Calls Tryz.prog 58 #[.pointer (some ⟨b, 0, none⟩), .int .i64 k] w (Gave E b w (.int .u64 (numV (rawR s c k).data.toList : Nat)) (rawS s c k) (rawC s c k)) := by
  have H := Lib.hid h
  have HE := Lib.hid hE
  have hrs := rawR_size s c k
  clear h hE
  go_enter Tryz.func58, Tryz.ntmps58
  go_wp2_with (first
    | (go_at_call 33; refine (InRaw_any w E b s c k (by omega) hs HE.out hb H.out).mono ?_; rintro e w1 ⟨rfl, h1, hg1⟩; skip; have H1 := Lib.hid h1; have HG1 := Lib.hid hg1; clear h1 hg1; rw [Int.toNat_natCast] at *; generalize rawR s c k = r at *)
    | (refine Cv.conv_bytes rfl 9 26 5 _ rfl rfl Tryz.underlying9 Tryz.underlying26 Tryz.underlying5 ?_; intro Y cap hY hfY hbY hnY hcY; have HY := Lib.hid hY; have HBY := Lib.hid hbY; clear hY hfY hbY hnY hcY))
  have HIn := Lib.hid (show IsIn Y b (rawS s c k) (evV E (rawC s c k)) from H1.out.below HBY.out H1.out.lt)
  have HGY := Lib.hid (grown_below HG1.out HBY.out)
  go_loop [5, 13] (fun n i => ∃ j : Nat, j ≤ r.size ∧ i = .int .i64 j ∧ n = .int .u64 (numV (r.data.toList.take j) : Nat)) (fun _ i => r.size - (intOf i).toNat)
  case atStart => exact ⟨0, Nat.zero_le _, rfl, rfl⟩
  case round =>
    obtain ⟨j, hj, rfl, rfl⟩ := hrel
    by_cases hjr : j < r.size
    · have hd : decide (j < r.size) = true := by simp; exact hjr
      have hx : r.data.toList[j]? = some r[j] := by rw [List.getElem?_eq_getElem (by rw [Array.length_toList]; exact hjr)]; rfl
      have hcell := HY.out j _ hx
      rw [Nat.zero_add] at hcell
      have hlt := numV_lt (r.data.toList.take j)
      have hp : 256 ^ (r.data.toList.take j).length ≤ 256 ^ 7 := Nat.pow_le_pow_right (by decide) (by rw [List.length_take]; omega)
      have h7 : (256 : Nat) ^ 7 = 72057594037927936 := by decide
      have hl7 : numV (r.data.toList.take j) < 72057594037927936 := by omega
      have HN := Lib.hid (num_next r.data.toList j _ hx (by omega))
      have hb2 := r[j].toNat_lt
      clear hx hlt hp h7
      have hor : bits .or .u64 ((numV (r.data.toList.take j) : Int) * 256) (r[j].toNat : Int) = ((numV (r.data.toList.take (j + 1)) : Nat) : Int) := by
        rw [HN.out, show ((numV (r.data.toList.take j) : Int) * 256) = ((numV (r.data.toList.take j) * 256 : Nat) : Int) by rw [Int.natCast_mul]; rfl, u64_or_nat _ _ (by omega) (by omega), or_byte _ _ (by omega)]
      have HOR := Lib.hid hor
      clear hor
      go_wp2
      go_round
      case rel => exact ⟨j + 1, by omega, by go_num, by rw [HOR.out]⟩
      case measure => simp [intOf]; omega
    · obtain rfl : j = r.size := by omega
      have HT := Lib.hid (show r.data.toList.take r.size = r.data.toList from List.take_of_length_le (by rw [Array.length_toList]; exact Nat.le_refl _))
      go_wp2
      go_ret
      exact ⟨by show Ending.returned (.int .u64 ((numV (r.data.toList.take r.size) : Nat) : Int)) = _; rw [HT.out], HIn.out, HGY.out⟩

theorem num1_lt (s : ByteArray) (c : Nat) : numV (rawR s c 1).data.toList < 256 := by
  have h := numV_lt (rawR s c 1).data.toList
  have h2 := rawR_size s c 1
  have h3 : 256 ^ (rawR s c 1).data.toList.length ≤ 256 ^ 1 := Nat.pow_le_pow_right (by decide) (by rw [Array.length_toList]; exact rawR_size s c 1)
  have h4 : (256 : Nat) ^ 1 = 256 := by decide
  omega
set_option maxHeartbeats 400000 in
theorem InByte_any (w : World) (E : Nat → Value) (b : Nat) (s : ByteArray) (c : Nat) (hs : s.size ≤ 9223372036854775807) (hE : Errs w E) (hb : Gl b) (h : IsIn w b s (evV E c)) :
    Calls Tryz.prog 26 #[.pointer (some ⟨b, 0, none⟩)] w (Gave E b w (.int .u8 (numV (rawR s c 1).data.toList : Nat)) (rawS s c 1) (rawC s c 1)) := by
  have H := Lib.hid h
  have HE := Lib.hid hE
  have hn := num1_lt s c
  clear h hE
  go_enter Tryz.func26, Tryz.ntmps26
  go_wp2_with (go_at_call 58; refine (InNum_any w E b s c 1 (by decide) hs HE.out hb H.out).mono ?_; rintro e w1 ⟨rfl, h1, hg1⟩; skip; have H1 := Lib.hid h1; have HG1 := Lib.hid hg1; clear h1 hg1)
  go_ret
  exact ⟨by first | rfl | simp | (simp; omega), H1.out, HG1.out⟩

theorem num4_lt (s : ByteArray) (c : Nat) : numV (rawR s c 4).data.toList < 4294967296 := by
  have h := numV_lt (rawR s c 4).data.toList
  have h2 := rawR_size s c 4
  have h3 : 256 ^ (rawR s c 4).data.toList.length ≤ 256 ^ 4 := Nat.pow_le_pow_right (by decide) (by rw [Array.length_toList]; exact rawR_size s c 4)
  have h4 : (256 : Nat) ^ 4 = 4294967296 := by decide
  omega
set_option maxHeartbeats 400000 in
theorem InU32_any (w : World) (E : Nat → Value) (b : Nat) (s : ByteArray) (c : Nat) (hs : s.size ≤ 9223372036854775807) (hE : Errs w E) (hb : Gl b) (h : IsIn w b s (evV E c)) :
    Calls Tryz.prog 29 #[.pointer (some ⟨b, 0, none⟩)] w (Gave E b w (.int .u32 (numV (rawR s c 4).data.toList : Nat)) (rawS s c 4) (rawC s c 4)) := by
  have H := Lib.hid h
  have HE := Lib.hid hE
  have hn := num4_lt s c
  clear h hE
  go_enter Tryz.func29, Tryz.ntmps29
  go_wp2_with (go_at_call 58; refine (InNum_any w E b s c 4 (by decide) hs HE.out hb H.out).mono ?_; rintro e w1 ⟨rfl, h1, hg1⟩; skip; have H1 := Lib.hid h1; have HG1 := Lib.hid hg1; clear h1 hg1)
  go_ret
  exact ⟨by first | rfl | simp | (simp; omega), H1.out, HG1.out⟩

theorem num8_lt (s : ByteArray) (c : Nat) : numV (rawR s c 8).data.toList < 18446744073709551616 := by
  have h := numV_lt (rawR s c 8).data.toList
  have h2 := rawR_size s c 8
  have h3 : 256 ^ (rawR s c 8).data.toList.length ≤ 256 ^ 8 := Nat.pow_le_pow_right (by decide) (by rw [Array.length_toList]; exact rawR_size s c 8)
  have h4 : (256 : Nat) ^ 8 = 18446744073709551616 := by decide
  omega
end Go.Proofs.YtjfikbnfabdkoaaGreatDoor.Wi
namespace Go.Proofs.YtjfikbnfabdkoaaGreatDoor.Wi
open Go.RowKit Go.Proofs.YtjfikbnfabdkoaaGreatDoor.Ow
def byteR (s : ByteArray) (c : Nat) : Nat := numV (rawR s c 1).data.toList
set_option maxHeartbeats 400000 in
theorem InBool_any (w : World) (E : Nat → Value) (b : Nat) (s : ByteArray) (c : Nat) (hs : s.size ≤ 9223372036854775807) (hE : Errs w E) (hb : Gl b) (h : IsIn w b s (evV E c)) :
    Calls Tryz.prog 30 #[.pointer (some ⟨b, 0, none⟩)] w (Gave E b w (.bool (numV (rawR s c 1).data.toList != 0)) (rawS s c 1) (rawC s c 1)) := by
  have H := Lib.hid h
  have HE := Lib.hid hE
  have hn := num1_lt s c
  clear h hE
  go_enter Tryz.func30, Tryz.ntmps30
  go_wp2_with (go_at_call 26; refine (InByte_any w E b s c hs HE.out hb H.out).mono ?_; rintro e w1 ⟨rfl, h1, hg1⟩; skip; have H1 := Lib.hid h1; have HG1 := Lib.hid hg1; clear h1 hg1)
  go_ret
  refine ⟨?_, H1.out, HG1.out⟩
  show Ending.returned (.bool (!(((numV (rawR s c 1).data.toList : Nat) : Int) == 0))) = _
  congr 2
  rw [Bool.eq_iff_iff]; simp
/-- Text's number of bytes -/
def txtN (s : ByteArray) (c : Nat) : Nat := numV (rawR s c 4).data.toList
def txtBig (s : ByteArray) (c : Nat) (most : Int) : Bool := decide (rawC s c 4 = 0 ∧ most < (txtN s c : Int))
def txtR (s : ByteArray) (c : Nat) (most : Int) : ByteArray := if txtBig s c most then ⟨#[]⟩ else rawR (rawS s c 4) (rawC s c 4) (txtN s c)
def txtS (s : ByteArray) (c : Nat) (most : Int) : ByteArray := if txtBig s c most then ⟨#[]⟩ else rawS (rawS s c 4) (rawC s c 4) (txtN s c)
def txtC (s : ByteArray) (c : Nat) (most : Int) : Nat := if txtBig s c most then 4 else rawC (rawS s c 4) (rawC s c 4) (txtN s c)
theorem rawS_size (s : ByteArray) (c n : Nat) : (rawS s c n).size ≤ s.size := by
  unfold rawS; split
  · split
    · rw [ByteArray.size_extract]; omega
    · exact Nat.zero_le _
  · exact Nat.le_refl _
set_option maxHeartbeats 1000000 in
theorem InText_any (w : World) (E : Nat → Value) (b : Nat) (s : ByteArray) (c : Nat) (most : Int) (hs : s.size ≤ 9223372036854775807) (hE : Errs w E) (hb : Gl b) (h : IsIn w b s (evV E c)) :
    Calls Tryz.prog 31 #[.pointer (some ⟨b, 0, none⟩), .int .i64 most] w (Gave E b w (.string (txtR s c most)) (txtS s c most) (txtC s c most)) := by
  have H := Lib.hid h
  have HE := Lib.hid hE
  have hn : txtN s c < 4294967296 := num4_lt s c
  have hsz := rawS_size s c 4
  obtain ⟨s1, hs1⟩ : ∃ s1, rawS s c 4 = s1 := ⟨_, rfl⟩
  obtain ⟨c1, hc1⟩ : ∃ c1, rawC s c 4 = c1 := ⟨_, rfl⟩
  obtain ⟨n, hn1⟩ : ∃ n, txtN s c = n := ⟨_, rfl⟩
  rw [hs1] at hsz
  rw [hn1] at hn
  have HS1 := Lib.hid hs1
  have HC1 := Lib.hid hc1
  have HN1 := Lib.hid hn1
  clear h hE hs1 hc1 hn1
  by_cases hz : c1 = 0
  · subst hz
    by_cases hm : most < (n : Int)
    · have HR := Lib.hid (show txtBig s c most = true by unfold txtBig; rw [HC1.out, HN1.out]; simp; exact hm)
      obtain ⟨a4, ha4⟩ := HE.out.is 4 (by decide)
      have HA := Lib.hid ha4
      clear ha4
      go_enter Tryz.func31, Tryz.ntmps31
      go_wp2_with (first
        | (go_at_call 29; refine (InU32_any w E b s c hs HE.out hb H.out).mono ?_; rintro e w1 ⟨rfl, h1, hg1⟩; skip
           rw [HS1.out, HC1.out, evV_zero] at h1
           rw [show numV (rawR s c 4).data.toList = n from HN1.out]
           have hc1 : w1.cell? ⟨b, 1, none⟩ = some .nilIface := h1.cell 1 rfl
           have hE1 := HE.out.keep hg1 hb
           have hbg := hE1.big
           rw [HA.out] at hbg
           have HE1 := Lib.hid hE1
           have H1 := Lib.hid h1; have HG1 := Lib.hid hg1; clear h1 hg1 hE1)
        | (go_at_call 59; refine (fail_none w1 b s1 _ _ H1.out).mono ?_; rintro e w2 ⟨rfl, h2, hg2⟩; skip
           rw [← HA.out] at h2
           have H2 := Lib.hid (show IsIn w2 b ⟨#[]⟩ (evV E 4) from h2); have HE2 := Lib.hid (HE1.out.keep hg2 hb); have HG2 := Lib.hid (World.grownBy.trans HG1.out hg2); clear h2 hg2 hc1 hbg)
        | (go_at_call 33; refine (InRaw_any w2 E b ⟨#[]⟩ 4 _ (by omega) (by decide) HE2.out hb H2.out).mono ?_; rintro e w3 ⟨rfl, h3, hg3⟩; skip
           have H3 := Lib.hid h3; have HG3 := Lib.hid (World.grownBy.trans HG2.out hg3); clear h3 hg3))
      go_ret
      refine ⟨?_, ?_, HG3.out⟩
      · unfold txtR; rw [HR.out, if_pos rfl]; rfl
      · unfold txtS txtC; rw [HR.out, if_pos rfl, if_pos rfl]; exact H3.out
    · have HR := Lib.hid (show txtBig s c most = false by unfold txtBig; rw [HC1.out, HN1.out]; simp; omega)
      have hd : ¬ most < (n : Int) := hm
      go_enter Tryz.func31, Tryz.ntmps31
      go_wp2_with (first
        | (go_at_call 29; refine (InU32_any w E b s c hs HE.out hb H.out).mono ?_; rintro e w1 ⟨rfl, h1, hg1⟩; skip
           rw [HS1.out, HC1.out] at h1
           rw [show numV (rawR s c 4).data.toList = n from HN1.out]
           have hc1 : w1.cell? ⟨b, 1, none⟩ = some .nilIface := h1.cell 1 rfl
           have HE1 := Lib.hid (HE.out.keep hg1 hb)
           have H1 := Lib.hid h1; have HG1 := Lib.hid hg1; clear h1 hg1)
        | (go_at_call 33; refine (InRaw_any w1 E b s1 0 _ (by omega) (by omega) HE1.out hb H1.out).mono ?_; rintro e w3 ⟨rfl, h3, hg3⟩; skip
           have H3 := Lib.hid h3; have HG3 := Lib.hid (World.grownBy.trans HG1.out hg3); clear h3 hg3))
      go_ret
      refine ⟨?_, ?_, HG3.out⟩
      · unfold txtR; rw [HR.out, if_neg (by decide), HS1.out, HC1.out, HN1.out]; rfl
      · unfold txtS txtC; rw [HR.out, if_neg (by decide), if_neg (by decide), HS1.out, HC1.out, HN1.out]; exact H3.out
  · have HR := Lib.hid (show txtBig s c most = false by unfold txtBig; rw [HC1.out]; simp [hz])
    obtain ⟨ac, hac⟩ := HE.out.is c1 hz
    have HEV := Lib.hid (show evV E c1 = .iface 162 (.pointer (some ac)) by rw [evV_pos E hz, hac])
    clear hac hz
    go_enter Tryz.func31, Tryz.ntmps31
    go_wp2_with (first
      | (go_at_call 29; refine (InU32_any w E b s c hs HE.out hb H.out).mono ?_; rintro e w1 ⟨rfl, h1, hg1⟩; skip
         rw [HS1.out, HC1.out] at h1
         rw [show numV (rawR s c 4).data.toList = n from HN1.out]
         have h1x := h1; rw [HEV.out] at h1x; have hc1 : w1.cell? ⟨b, 1, none⟩ = some (.iface 162 (.pointer (some ac))) := h1x.cell 1 rfl; clear h1x
         have HE1 := Lib.hid (HE.out.keep hg1 hb)
         have H1 := Lib.hid h1; have HG1 := Lib.hid hg1; clear h1 hg1)
      | (go_at_call 33; refine (InRaw_any w1 E b s1 c1 _ (by omega) (by omega) HE1.out hb H1.out).mono ?_; rintro e w3 ⟨rfl, h3, hg3⟩; skip
         have H3 := Lib.hid h3; have HG3 := Lib.hid (World.grownBy.trans HG1.out hg3); clear h3 hg3))
    go_ret
    refine ⟨?_, ?_, HG3.out⟩
    · unfold txtR; rw [HR.out, if_neg (by decide), HS1.out, HC1.out, HN1.out]; rfl
    · unfold txtS txtC; rw [HR.out, if_neg (by decide), if_neg (by decide), HS1.out, HC1.out, HN1.out]; exact H3.out

theorem InLeft_any (w : World) (E : Nat → Value) (b : Nat) (s : ByteArray) (e0 : Value) (h : IsIn w b s e0) :
    Calls Tryz.prog 34 #[.pointer (some ⟨b, 0, none⟩)] w fun e w' => e = .returned (.int .i64 s.size) ∧ w = w' := by
  have h0 := h.cell 0 (v := .string s) rfl
  clear h
  go_enter Tryz.func34, Tryz.ntmps34
  go_wp2
  go_ret
  exact ⟨rfl, rfl⟩
theorem InErr_any (w : World) (b : Nat) (s : ByteArray) (e0 : Value) (h : IsIn w b s e0) :
    Calls Tryz.prog 27 #[.pointer (some ⟨b, 0, none⟩)] w fun e w' => e = .returned e0 ∧ w = w' := by
  have h1 := h.cell 1 (v := e0) rfl
  clear h
  go_enter Tryz.func27, Tryz.ntmps27
  go_wp2
  go_ret
  exact ⟨rfl, rfl⟩
theorem Of_any (w : World) (s : ByteArray) :
    Calls Tryz.prog 25 #[.string s] w fun e w' => e = .returned (.pointer (some ⟨w.heap.size, 0, none⟩)) ∧ IsIn w' w.heap.size s .nilIface ∧ Below w.heap.size w w' := by
  have HI := Lib.hid (show IsIn (w.alloc (.cells #[.string s, .nilIface] 114)) w.heap.size s .nilIface from Rg.Blk.new w _ _)
  have HB := Lib.hid (show Below w.heap.size w (w.alloc (.cells #[.string s, .nilIface] 114)) from (Below.refl _ _).alloc (Nat.le_refl _) _)
  go_enter Tryz.func25, Tryz.ntmps25
  go_wp2
  go_ret
  exact ⟨rfl, HI.out, HB.out⟩
/-- End: bytes that are left are an error, if there is none yet -/
def endC (s : ByteArray) (c : Nat) : Nat := if c = 0 ∧ s.size ≠ 0 then 3 else c
def endS (s : ByteArray) (c : Nat) : ByteArray := if c = 0 then ⟨#[]⟩ else s
theorem empty_of_size {s : ByteArray} (h : s.size = 0) : s = ⟨#[]⟩ := by
  apply ByteArray.ext; apply Array.toList_inj.1
  exact List.eq_nil_of_length_eq_zero (by rw [Array.length_toList]; exact h)
theorem toList_empty {s : ByteArray} (h : s.size = 0) : s.toList = [] := by rw [ByteArray.toList_eq, empty_of_size h]
theorem toList_ne {s : ByteArray} (h : s.size ≠ 0) : s.toList.isEmpty = false := by
  rw [List.isEmpty_eq_false_iff, ByteArray.toList_eq]
  intro e
  have := congrArg List.length e
  rw [Array.length_toList] at this
  exact h this
set_option maxHeartbeats 1000000 in
theorem InEnd_any (w : World) (E : Nat → Value) (b : Nat) (s : ByteArray) (c : Nat) (hE : Errs w E) (hb : Gl b) (h : IsIn w b s (evV E c)) :
    Calls Tryz.prog 35 #[.pointer (some ⟨b, 0, none⟩)] w (Gave E b w (evV E (endC s c)) (endS s c) (endC s c)) := by
  have H := Lib.hid h
  have HE := Lib.hid hE
  have h0 := H.out.cell 0 (v := .string s) rfl
  by_cases hs : s.size = 0
  · have hl := toList_empty hs
    have hl2 : s.toList.isEmpty = true := by rw [hl]; rfl
    have HC := Lib.hid (show endC s c = c from if_neg fun e => e.2 hs)
    have HS := Lib.hid (show endS s c = s by unfold endS; split; exact (empty_of_size hs).symm; rfl)
    have h1 := H.out.cell 1 (v := evV E c) rfl
    clear h hE hs
    go_enter Tryz.func35, Tryz.ntmps35
    go_wp2
    go_ret
    exact ⟨by rw [HC.out]; rfl, by rw [HC.out, HS.out]; exact H.out, World.grownBy.refl _ _⟩
  · have hl2 := toList_ne hs
    obtain ⟨a3, ha3⟩ := HE.out.is 3 (by decide)
    have hfm := HE.out.form
    rw [ha3] at hfm
    have HA := Lib.hid ha3
    clear ha3
    by_cases hz : c = 0
    · subst hz
      have HC := Lib.hid (show endC s 0 = 3 from if_pos ⟨rfl, hs⟩)
      have HS := Lib.hid (show endS s 0 = ⟨#[]⟩ from rfl)
      clear h hE hs
      go_enter Tryz.func35, Tryz.ntmps35
      go_wp2_with (go_at_call 59; refine (fail_none w b s _ _ H.out).mono ?_; rintro e w2 ⟨rfl, h2, hg2⟩; skip
                   have h3 := h2.cell 1 (v := .iface 162 (.pointer (some a3))) rfl
                   rw [← HA.out] at h2
                   have H2 := Lib.hid (show IsIn w2 b ⟨#[]⟩ (evV E 3) from h2); have HG2 := Lib.hid hg2; clear h2 hg2)
      go_ret
      exact ⟨by rw [HC.out]; show _ = Ending.returned (E 3); rw [HA.out]; rfl, by rw [HC.out, HS.out]; exact H2.out, HG2.out⟩
    · have HC := Lib.hid (show endC s c = c from if_neg fun e => hz e.1)
      have HS := Lib.hid (show endS s c = s from if_neg hz)
      obtain ⟨ac, hac⟩ := HE.out.is c hz
      have HEV := Lib.hid (show evV E c = .iface 162 (.pointer (some ac)) by rw [evV_pos E hz, hac])
      have h1 : w.cell? ⟨b, 1, none⟩ = some (.iface 162 (.pointer (some ac))) := by rw [HEV.out] at h; exact h.cell 1 rfl
      have H' := Lib.hid (HEV.out ▸ h)
      clear h hE hs hac hz
      go_enter Tryz.func35, Tryz.ntmps35
      go_wp2_with (go_at_call 59; refine (fail_some w b s _ _ _ H'.out).mono ?_; rintro e w2 ⟨rfl, rfl⟩; skip)
      go_ret
      exact ⟨by rw [HC.out, HEV.out]; rfl, by rw [HC.out, HS.out]; exact H.out, World.grownBy.refl _ _⟩
end Go.Proofs.YtjfikbnfabdkoaaGreatDoor.Wi
namespace Go.Proofs.YtjfikbnfabdkoaaGreatDoor.Wi
open Go.RowKit Go.Proofs.YtjfikbnfabdkoaaGreatDoor.Ow
def okB (x : UInt8) : Bool := decide (33 ≤ x.toNat) && decide (x.toNat ≤ 126) && decide (x.toNat ≠ 44)
def nameB (l : List UInt8) : Bool := l.all okB && decide (0 < l.length) && decide (l.length ≤ 64)
theorem all_take_succ (l : List UInt8) (k : Nat) (x : UInt8) (hx : l[k]? = some x) (h : (l.take k).all okB = true) (ho : okB x = true) : (l.take (k + 1)).all okB = true := by
  rw [List.take_add_one, hx, List.all_append, h]; simp [ho]
theorem nameB_bad (l : List UInt8) (k : Nat) (x : UInt8) (hx : l[k]? = some x) (ho : okB x = false) : nameB l = false := by
  have : l.all okB = false := by
    rw [Bool.eq_false_iff]
    intro h
    have := List.all_eq_true.1 h x (List.mem_of_getElem? hx)
    rw [ho] at this; cases this
  unfold nameB; rw [this]; rfl
theorem get_list (s : ByteArray) (k : Nat) (h : k < s.size) : s.data.toList[k]? = some s[k] := by rw [List.getElem?_eq_getElem (by rw [Array.length_toList]; exact h)]; rfl
set_option maxRecDepth 20000 in
set_option maxHeartbeats 1000000 in
theorem Name_any (w : World) (s : ByteArray) (hs : s.size ≤ 9223372036854775807) :
    Calls Tryz.prog 61 #[.string s] w fun e w' => e = .returned (.bool (nameB s.data.toList)) ∧ w = w' := by
  have HL := Lib.hid (show s.data.toList.length = s.size from Array.length_toList)
  go_enter Tryz.func61, Tryz.ntmps61
  go_wp2
  go_loop [6] (fun i => ∃ k : Nat, k ≤ s.size ∧ i = .int .i64 k ∧ (s.data.toList.take k).all okB = true) (fun i => s.size - (intOf i).toNat)
  case atStart => exact ⟨0, Nat.zero_le _, rfl, rfl⟩
  case round =>
    obtain ⟨k, hk, rfl, hall⟩ := hrel
    have HAll := Lib.hid hall
    clear hall
    by_cases hlt : k < s.size
    · have hik : (k : Int) < s.size := by omega
      have HX := Lib.hid (get_list s k hlt)
      by_cases h1 : s[k].toNat < 33
      · have HV := Lib.hid (nameB_bad _ _ _ HX.out (show okB s[k] = false by unfold okB; simp; omega))
        have hd : decide ((s[k].toNat : Int) < 33) = true := by simp; omega
        clear h1
        go_wp2
        go_ret
        exact ⟨by rw [HV.out]; rfl, rfl⟩
      · have hd1 : decide ((s[k].toNat : Int) < 33) = false := by simp; omega
        by_cases h2 : 126 < s[k].toNat
        · have HV := Lib.hid (nameB_bad _ _ _ HX.out (show okB s[k] = false by unfold okB; simp; omega))
          have hd : decide ((126 : Int) < (s[k].toNat : Int)) = true := by simp; omega
          clear h1 h2
          go_wp2
          go_ret
          exact ⟨by rw [HV.out]; rfl, rfl⟩
        · have hd2 : decide ((126 : Int) < (s[k].toNat : Int)) = false := by rw [decide_eq_false_iff_not]; omega
          by_cases h3 : s[k].toNat = 44
          · have HV := Lib.hid (nameB_bad _ _ _ HX.out (show okB s[k] = false by unfold okB; simp [h3]))
            have hd3 : ((s[k].toNat : Int) == 44) = true := by simp; omega
            clear h1 h2 h3
            go_wp2
            go_ret
            exact ⟨by rw [HV.out]; rfl, rfl⟩
          · have HAll' := Lib.hid (all_take_succ _ _ _ HX.out HAll.out (show okB s[k] = true by unfold okB; simp; omega))
            have hd3 : ((s[k].toNat : Int) == 44) = false := by simp; omega
            clear h1 h2 h3
            go_wp2
            go_round
            case rel =>
              first
                | exact ⟨k + 1, by omega, by go_num, HAll'.out⟩
                | ((repeat apply Exists.intro); refine ⟨?_, rfl⟩; exact ⟨k + 1, by omega, by go_num, HAll'.out⟩)
            case measure => simp [intOf]; omega
    · obtain rfl : k = s.size := by omega
      have HA := Lib.hid (show s.data.toList.all okB = true by have := HAll.out; rwa [List.take_of_length_le (by rw [HL.out]; exact Nat.le_refl _)] at this)
      clear HAll
      by_cases h0 : s.size = 0
      · have hl := toList_empty h0
        have hl2 : s.toList.isEmpty = true := by rw [hl]; rfl
        have HV := Lib.hid (show nameB s.data.toList = false by unfold nameB; rw [HL.out, h0]; simp)
        clear h0
        go_wp2
        go_ret
        exact ⟨by rw [HV.out]; rfl, rfl⟩
      · have hl2 := toList_ne h0
        by_cases h64 : s.size ≤ 64
        · have HV := Lib.hid (show nameB s.data.toList = true by unfold nameB; rw [HL.out, HA.out, decide_eq_true (show 0 < s.size by omega), decide_eq_true h64]; rfl)
          have hd : decide ((s.size : Int) ≤ 64) = true := by simp; omega
          clear h0
          go_wp2
          go_ret
          exact ⟨by rw [HV.out]; rfl, rfl⟩
        · have HV := Lib.hid (show nameB s.data.toList = false by unfold nameB; rw [HL.out, decide_eq_false h64]; simp)
          have hd : decide ((s.size : Int) ≤ 64) = false := by simp; omega
          clear h0
          go_wp2
          go_ret
          exact ⟨by rw [HV.out]; rfl, rfl⟩
end Go.Proofs.YtjfikbnfabdkoaaGreatDoor.Wi
