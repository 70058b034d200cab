/- wire.Out: numbers, texts, names, big numbers; its bytes. -/
import Derived.Test.YtjfikbnfabdkoaaDoorWireOut
import Derived.Lib.Join
import Derived.Lib.TrimByte
set_option linter.unusedVariables false
set_option linter.unusedSimpArgs false
namespace Go.Proofs.YtjfikbnfabdkoaaDoor.Wi
open Go.RowKit Go.Proofs.YtjfikbnfabdkoaaDoor.Ow Go.Proofs.YtjfikbnfabdkoaaDoor.Be
def textL (l : List UInt8) : List UInt8 := be 4 l.length ++ l
def strip (l : List UInt8) : List UInt8 := l.dropWhile (· == 0)
def bigL (l : List UInt8) : List UInt8 := if 128 ≤ ((strip l).headD 0).toNat then 0 :: strip l else strip l
def joinC (xs : List ByteArray) : List UInt8 := Lib.join (xs.map (·.data.toList)) [44]
theorem IsOut.lt {B b : Nat} {l : List UInt8} {w : World} (h : IsOut B b l w) : b < w.heap.size := h.elim Lib.BuilderAt.lt Lib.BuilderAt.lt
theorem len_list (s : ByteArray) : s.data.toList.length = s.size := Array.length_toList
theorem strip_length (l : List UInt8) : (strip l).length ≤ l.length := (List.dropWhile_sublist _).length_le
theorem bigL_length (l : List UInt8) : (bigL l).length ≤ l.length + 1 := by
  have := strip_length l
  unfold bigL; split
  · simp; omega
  · omega
theorem U32_any (B b : Nat) (l : List UInt8) (n : Nat) (hn : n < 4294967296) (w : World) (h : IsOut B b l w) (hl : l.length + 4 ≤ 140737488355328) (hB : B ≤ w.heap.size) :
    Calls Tryd.prog 52 #[.pointer (some ⟨b, 0, none⟩), .int .u32 n] w (Wrote B b (l ++ be 4 n) w) := by
  have H := Lib.hid h
  clear h
  go_enter Tryd.func52, Tryd.ntmps52
  go_wp2_with (go_at_call 89; refine (put4_any B b l n (by omega) _ H.out hl hB).mono ?_; rintro e w1 ⟨rfl, h1, hb1⟩; skip; have H1 := Lib.hid h1; have HB1 := Lib.hid hb1; clear h1 hb1)
  go_ret
  exact ⟨rfl, H1.out, HB1.out⟩
theorem Text_any (B b : Nat) (l : List UInt8) (s : ByteArray) (hs : s.size < 4294967296) (w : World) (h : IsOut B b l w) (hl : l.length + 4 + s.size ≤ 140737488355328) (hB : B ≤ w.heap.size) :
    Calls Tryd.prog 56 #[.pointer (some ⟨b, 0, none⟩), .string s] w (Wrote B b (l ++ textL s.data.toList) w) := by
  have H := Lib.hid h
  clear h
  go_enter Tryd.func56, Tryd.ntmps56
  go_wp2_with (first
    | (go_at_call 52; refine (U32_any B b l s.size hs _ H.out (by omega) hB).mono ?_; rintro e w1 ⟨rfl, h1, hb1⟩; skip; have H1 := Lib.hid h1; have HB1 := Lib.hid hb1; clear h1 hb1)
    | (go_at_call 58; refine (Raw_any B b (l ++ be 4 s.size) s _ H1.out (by rw [List.length_append, be_length]; exact hl) (by have := HB1.out.size; omega)).mono ?_; rintro e w2 ⟨rfl, h2, hb2⟩; skip; have H2 := Lib.hid h2; have HB2 := Lib.hid hb2; clear h2 hb2))
  go_ret
  refine ⟨rfl, ?_, HB1.out.trans HB2.out⟩
  have h2 := H2.out
  unfold textL
  rw [len_list, ← List.append_assoc]
  exact h2
theorem Names_any (B b : Nat) (l : List UInt8) (A : Option Addr) (n c : Nat) (xs : List ByteArray) (hn : xs.length = n) (hc : n ≤ c) (hN : n ≤ 1000000) (w : World) (hR : Rd w A (xs.map Value.string)) (hj : (joinC xs).length < 4294967296) (h : IsOut B b l w) (hl : l.length + 4 + (joinC xs).length ≤ 140737488355328) (hB : B ≤ w.heap.size) :
    Calls Tryd.prog 57 #[.pointer (some ⟨b, 0, none⟩), .slice A n c] w (Wrote B b (l ++ textL (joinC xs)) w) := by
  subst hn
  have H := Lib.hid h
  have HJ : Hid (Calls Tryd.prog 87 #[.slice A xs.length c, .string ⟨#[44]⟩] w fun e w' => e = .returned (.string ⟨(joinC xs).toArray⟩) ∧ Below w.heap.size w w') := Lib.hid (by
    by_cases h0 : xs = []
    · subst h0
      refine (Tryd.strings_Join_none A c ⟨#[44]⟩ w).mono ?_
      rintro e w' ⟨rfl, rfl⟩
      exact ⟨rfl, Below.refl _ _⟩
    · obtain ⟨bk, o, rfl, hlt, hx⟩ := hR.place (by rw [List.length_map]; exact List.length_pos_iff.2 h0)
      exact Tryd.strings_Join bk o c xs ⟨#[44]⟩ w (fun j x hj => hx j _ (by rw [List.getElem?_map, hj]; rfl)) hlt (by omega) hc (by show (joinC xs).length ≤ _; omega))
  have hsz : (⟨(joinC xs).toArray⟩ : ByteArray).size = (joinC xs).length := List.size_toArray
  have HL := Lib.hid (show (⟨(joinC xs).toArray⟩ : ByteArray).data.toList = joinC xs from rfl)
  have HSZ := Lib.hid hsz
  clear h hR hsz
  go_enter Tryd.func57, Tryd.ntmps57
  go_wp2_with (first
    | (go_at_call 87; refine HJ.out.mono ?_; rintro e w1 ⟨rfl, hb1⟩; skip; have HB1 := Lib.hid hb1; have H1 := Lib.hid (H.out.below hb1); clear hb1; generalize (⟨(joinC xs).toArray⟩ : ByteArray) = t at *)
    | (go_at_call 56; refine (Text_any B b l t (by rw [HSZ.out]; exact hj) _ H1.out (by rw [HSZ.out]; exact hl) (by have := HB1.out.size; omega)).mono ?_; rintro e w2 ⟨rfl, h2, hb2⟩; skip; have H2 := Lib.hid h2; have HB2 := Lib.hid hb2; clear h2 hb2))
  go_ret
  exact ⟨rfl, by have := H2.out; rw [HL.out] at this; exact this, (Bo.Calm.of HB1.out hB).trans HB2.out⟩
theorem head_get (s : ByteArray) (h : 0 < s.size) : (s.data.toList.headD 0) = s[0] := by
  obtain ⟨⟨l⟩⟩ := s
  cases l with
  | nil => exact absurd h (Nat.lt_irrefl 0)
  | cons x l => rfl
theorem Bytes_any (B b : Nat) (l : List UInt8) (w : World) (h : Bo.Read B b l w) (hB : B ≤ w.heap.size) :
    Calls Tryd.prog 59 #[.pointer (some ⟨b, 0, none⟩)] w fun e w' => e = .returned (.string ⟨l.toArray⟩) ∧ Bo.Read B b l w' ∧ Below B w w' ∧ Bo.Kept w w' := by
  have H := Lib.hid h
  clear h
  go_enter Tryd.func59, Tryd.ntmps59
  go_wp2_with (go_at_call 91; refine (Bo.string_any B b l _ H.out hB).mono ?_; rintro e w1 ⟨rfl, h1, hb1, hk1⟩; skip; have H1 := Lib.hid h1; have HB1 := Lib.hid hb1; have HK1 := Lib.hid hk1; clear h1 hb1 hk1)
  go_ret
  exact ⟨rfl, H1.out, HB1.out, HK1.out⟩
theorem Bytes_eq (B b : Nat) (l : List UInt8) (t : ByteArray) (ht : (⟨l.toArray⟩ : ByteArray) = t) (w : World) (h : Bo.Read B b l w) (hB : B ≤ w.heap.size) :
    Calls Tryd.prog 59 #[.pointer (some ⟨b, 0, none⟩)] w fun e w' => e = .returned (.string t) ∧ Bo.Read B b l w' ∧ Below B w w' ∧ Bo.Kept w w' := ht ▸ Bytes_any B b l w h hB
end Go.Proofs.YtjfikbnfabdkoaaDoor.Wi
