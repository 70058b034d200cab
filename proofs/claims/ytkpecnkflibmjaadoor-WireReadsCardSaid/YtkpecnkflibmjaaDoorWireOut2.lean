/- wire.Out: numbers, texts, names, big numbers; its bytes. -/
import Derived.Test.YtkpecnkflibmjaaDoorWireOut
import Derived.Lib.Join
import Derived.Lib.TrimByte
set_option linter.unusedVariables false
set_option linter.unusedSimpArgs false
namespace Go.Proofs.YtkpecnkflibmjaaDoor.Wi
open Go.RowKit Go.Proofs.YtkpecnkflibmjaaDoor.Ow Go.Proofs.YtkpecnkflibmjaaDoor.Be
def textL (l : List UInt8) : List UInt8 := be 4 l.length ++ l
def strip (l : List UInt8) : List UInt8 := l.dropWhile (· == 0)
def bigL (l : List UInt8) : List UInt8 := if 128 ≤ ((strip l).headD 0).toNat then 0 :: strip l else strip l
def joinC (xs : List ByteArray) : List UInt8 := Lib.join (xs.map (·.data.toList)) [44]
theorem IsOut.lt {B b : Nat} {l : List UInt8} {w : World} (h : IsOut B b l w) : b < w.heap.size := h.elim Lib.BuilderAt.lt Lib.BuilderAt.lt
theorem len_list (s : ByteArray) : s.data.toList.length = s.size := Array.length_toList
theorem strip_length (l : List UInt8) : (strip l).length ≤ l.length := (List.dropWhile_sublist _).length_le
theorem bigL_length (l : List UInt8) : (bigL l).length ≤ l.length + 1 := by
  have := strip_length l
  unfold bigL; split
  · simp; omega
  · omega
theorem U32_any (B b : Nat) (l : List UInt8) (n : Nat) (hn : n < 4294967296) (w : World) (h : IsOut B b l w) (hl : l.length + 4 ≤ 140737488355328) (hB : B ≤ w.heap.size) :
    Calls Tryd.prog 14 #[.pointer (some ⟨b, 0, none⟩), .int .u32 n] w (Wrote B b (l ++ be 4 n) w) := by
  have H := Lib.hid h
  clear h
  go_enter Tryd.func14, Tryd.ntmps14
  go_wp2_with (go_at_call 39; refine (put4_any B b l n (by omega) _ H.out hl hB).mono ?_; rintro e w1 ⟨rfl, h1, hb1⟩; skip; have H1 := Lib.hid h1; have HB1 := Lib.hid hb1; clear h1 hb1)
  go_ret
  exact ⟨rfl, H1.out, HB1.out⟩
theorem U64_any (B b : Nat) (l : List UInt8) (n : Nat) (hn : n < 18446744073709551616) (w : World) (h : IsOut B b l w) (hl : l.length + 8 ≤ 140737488355328) (hB : B ≤ w.heap.size) :
    Calls Tryd.prog 16 #[.pointer (some ⟨b, 0, none⟩), .int .u64 n] w (Wrote B b (l ++ be 8 n) w) := by
  have H := Lib.hid h
  clear h
  go_enter Tryd.func16, Tryd.ntmps16
  go_wp2_with (go_at_call 39; refine (put8_any B b l n hn _ H.out hl hB).mono ?_; rintro e w1 ⟨rfl, h1, hb1⟩; skip; have H1 := Lib.hid h1; have HB1 := Lib.hid hb1; clear h1 hb1)
  go_ret
  exact ⟨rfl, H1.out, HB1.out⟩
theorem Text_any (B b : Nat) (l : List UInt8) (s : ByteArray) (hs : s.size < 4294967296) (w : World) (h : IsOut B b l w) (hl : l.length + 4 + s.size ≤ 140737488355328) (hB : B ≤ w.heap.size) :
    Calls Tryd.prog 22 #[.pointer (some ⟨b, 0, none⟩), .string s] w (Wrote B b (l ++ textL s.data.toList) w) := by
  have H := Lib.hid h
  clear h
  go_enter Tryd.func22, Tryd.ntmps22
  go_wp2_with (first
    | (go_at_call 14; refine (U32_any B b l s.size hs _ H.out (by omega) hB).mono ?_; rintro e w1 ⟨rfl, h1, hb1⟩; skip; have H1 := Lib.hid h1; have HB1 := Lib.hid hb1; clear h1 hb1)
    | (go_at_call 17; refine (Raw_any B b (l ++ be 4 s.size) s _ H1.out (by rw [List.length_append, be_length]; exact hl) (by have := HB1.out.size; omega)).mono ?_; rintro e w2 ⟨rfl, h2, hb2⟩; skip; have H2 := Lib.hid h2; have HB2 := Lib.hid hb2; clear h2 hb2))
  go_ret
  refine ⟨rfl, ?_, HB1.out.trans HB2.out⟩
  have h2 := H2.out
  unfold textL
  rw [len_list, ← List.append_assoc]
  exact h2
theorem Names_any (B b : Nat) (l : List UInt8) (A : Option Addr) (n c : Nat) (xs : List ByteArray) (hn : xs.length = n) (hc : n ≤ c) (hN : n ≤ 1000000) (w : World) (hR : Rd w A (xs.map Value.string)) (hj : (joinC xs).length < 4294967296) (h : IsOut B b l w) (hl : l.length + 4 + (joinC xs).length ≤ 140737488355328) (hB : B ≤ w.heap.size) :
    Calls Tryd.prog 18 #[.pointer (some ⟨b, 0, none⟩), .slice A n c] w (Wrote B b (l ++ textL (joinC xs)) w) := by
  subst hn
  have H := Lib.hid h
  have HJ : Hid (Calls Tryd.prog 41 #[.slice A xs.length c, .string ⟨#[44]⟩] w fun e w' => e = .returned (.string ⟨(joinC xs).toArray⟩) ∧ Below w.heap.size w w') := Lib.hid (by
    by_cases h0 : xs = []
    · subst h0
      refine (Tryd.strings_Join_none A c ⟨#[44]⟩ w).mono ?_
      rintro e w' ⟨rfl, rfl⟩
      exact ⟨rfl, Below.refl _ _⟩
    · obtain ⟨bk, o, rfl, hlt, hx⟩ := hR.place (by rw [List.length_map]; exact List.length_pos_iff.2 h0)
      exact Tryd.strings_Join bk o c xs ⟨#[44]⟩ w (fun j x hj => hx j _ (by rw [List.getElem?_map, hj]; rfl)) hlt (by omega) hc (by show (joinC xs).length ≤ _; omega))
  have hsz : (⟨(joinC xs).toArray⟩ : ByteArray).size = (joinC xs).length := List.size_toArray
  have HL := Lib.hid (show (⟨(joinC xs).toArray⟩ : ByteArray).data.toList = joinC xs from rfl)
  have HSZ := Lib.hid hsz
  clear h hR hsz
  go_enter Tryd.func18, Tryd.ntmps18
  go_wp2_with (first
    | (go_at_call 41; refine HJ.out.mono ?_; rintro e w1 ⟨rfl, hb1⟩; skip; have HB1 := Lib.hid hb1; have H1 := Lib.hid (H.out.below hb1); clear hb1; generalize (⟨(joinC xs).toArray⟩ : ByteArray) = t at *)
    | (go_at_call 22; refine (Text_any B b l t (by rw [HSZ.out]; exact hj) _ H1.out (by rw [HSZ.out]; exact hl) (by have := HB1.out.size; omega)).mono ?_; rintro e w2 ⟨rfl, h2, hb2⟩; skip; have H2 := Lib.hid h2; have HB2 := Lib.hid hb2; clear h2 hb2))
  go_ret
  exact ⟨rfl, by have := H2.out; rw [HL.out] at this; exact this, (Bo.Calm.of HB1.out hB).trans HB2.out⟩
theorem head_get (s : ByteArray) (h : 0 < s.size) : (s.data.toList.headD 0) = s[0] := by
  obtain ⟨⟨l⟩⟩ := s
  cases l with
  | nil => exact absurd h (Nat.lt_irrefl 0)
  | cons x l => rfl
set_option maxHeartbeats 1000000 in
theorem Big_any (B b : Nat) (l : List UInt8) (s : ByteArray) (hs : s.size < 4294967200) (w : World) (h : IsOut B b l w) (hl : l.length + 5 + s.size ≤ 140737488355328) (hB : B ≤ w.heap.size) :
    Calls Tryd.prog 20 #[.pointer (some ⟨b, 0, none⟩), .string s] w (Wrote B b (l ++ textL (bigL s.data.toList)) w) := by
  have H := Lib.hid h
  have HS := Lib.hid (strip_length s.data.toList)
  obtain ⟨t, ht⟩ : ∃ t : ByteArray, (⟨(strip s.data.toList).toArray⟩ : ByteArray) = t := ⟨_, rfl⟩
  have HTL := Lib.hid (show t.data.toList = strip s.data.toList by rw [← ht])
  have hts : t.size ≤ s.size := by rw [← len_list t, HTL.out, ← len_list s]; exact HS.out
  have HT : Hid (∀ W : World, Calls Tryd.prog 42 #[.string s, .string ⟨#[0]⟩] W fun e w' => e = .returned (.string t) ∧ w' = W) := Lib.hid (fun W => by rw [← ht]; exact Tryd.strings_TrimLeft_one s 0 (by decide) W)
  clear h ht
  by_cases h0 : 0 < t.size
  · have hne : t.toList = [] ↔ False := by
      constructor
      · intro e; rw [ByteArray.toList_eq] at e; have := len_list t; rw [e] at this; simp at this; omega
      · exact False.elim
    have hne1 : t.toList.isEmpty = false := by rw [List.isEmpty_eq_false_iff]; exact fun e => hne.1 e
    have HH := Lib.hid (head_get t h0)
    by_cases h8 : 128 ≤ t[0].toNat
    · have HBig := Lib.hid (show bigL s.data.toList = 0 :: t.data.toList by unfold bigL; rw [← HTL.out, if_pos (by rw [HH.out]; exact h8)])
      have hd : (128 : Int) ≤ (t[0].toNat : Int) := by omega
      have hq : ¬ 9223372036854775807 < 1 + t.size := by omega
      have HA := Lib.hid (show ((⟨#[0]⟩ : ByteArray) ++ t).data.toList = 0 :: t.data.toList by simp)
      have HAS := Lib.hid (show ((⟨#[0]⟩ : ByteArray) ++ t).size = 1 + t.size by rw [ByteArray.size_append]; rfl)
      go_enter Tryd.func20, Tryd.ntmps20
      go_wp2_with (first
        | (go_at_call 42; refine (HT.out _).mono ?_; rintro e w1 ⟨rfl, rfl⟩; skip)
        | (go_at_call 22; refine (Text_any B b l _ (by rw [HAS.out]; omega) _ H.out (by rw [HAS.out]; omega) hB).mono ?_; rintro e w2 ⟨rfl, h2, hb2⟩; skip; have H2 := Lib.hid h2; have HB2 := Lib.hid hb2; clear h2 hb2))
      go_ret
      refine ⟨rfl, ?_, HB2.out⟩
      have h2 := H2.out
      rw [HA.out] at h2
      rw [HBig.out]; exact h2
    · have HBig := Lib.hid (show bigL s.data.toList = t.data.toList by unfold bigL; rw [← HTL.out, if_neg (by rw [HH.out]; exact h8)])
      have hd : decide ((128 : Int) ≤ (t[0].toNat : Int)) = false := by rw [decide_eq_false_iff_not]; omega
      clear h8 hne
      go_enter Tryd.func20, Tryd.ntmps20
      go_wp2_with (first
        | (go_at_call 42; refine (HT.out _).mono ?_; rintro e w1 ⟨rfl, rfl⟩; skip)
        | (go_at_call 22; refine (Text_any B b l t (by omega) _ H.out (by omega) hB).mono ?_; rintro e w2 ⟨rfl, h2, hb2⟩; skip; have H2 := Lib.hid h2; have HB2 := Lib.hid hb2; clear h2 hb2))
      go_ret
      refine ⟨rfl, ?_, HB2.out⟩
      have h2 := H2.out
      rw [HBig.out]; exact h2
  · have HBig := Lib.hid (show bigL s.data.toList = t.data.toList by
      unfold bigL
      have : t.data.toList = [] := List.eq_nil_of_length_eq_zero (by rw [len_list]; omega)
      rw [← HTL.out, this]; rfl)
    have ht0 : t = ⟨#[]⟩ := by
      apply ByteArray.ext; apply Array.toList_inj.1
      exact List.eq_nil_of_length_eq_zero (by rw [len_list]; omega)
    have HT0 := Lib.hid ht0
    clear ht0
    have hne2 : t.toList = [] := by rw [ByteArray.toList_eq, HT0.out]
    have hne1 : t.toList.isEmpty = true := by rw [hne2]; rfl
    go_enter Tryd.func20, Tryd.ntmps20
    go_wp2_with (first
      | (go_at_call 42; refine (HT.out _).mono ?_; rintro e w1 ⟨rfl, rfl⟩; skip)
      | (go_at_call 22; refine (Text_any B b l t (by omega) _ H.out (by omega) hB).mono ?_; rintro e w2 ⟨rfl, h2, hb2⟩; skip; have H2 := Lib.hid h2; have HB2 := Lib.hid hb2; clear h2 hb2))
    go_ret
    refine ⟨rfl, ?_, HB2.out⟩
    have h2 := H2.out
    rw [HBig.out]; exact h2
theorem Bytes_any (B b : Nat) (l : List UInt8) (w : World) (h : Bo.Read B b l w) (hB : B ≤ w.heap.size) :
    Calls Tryd.prog 24 #[.pointer (some ⟨b, 0, none⟩)] w fun e w' => e = .returned (.string ⟨l.toArray⟩) ∧ Bo.Read B b l w' ∧ Below B w w' ∧ Bo.Kept w w' := by
  have H := Lib.hid h
  clear h
  go_enter Tryd.func24, Tryd.ntmps24
  go_wp2_with (go_at_call 43; refine (Bo.string_any B b l _ H.out hB).mono ?_; rintro e w1 ⟨rfl, h1, hb1, hk1⟩; skip; have H1 := Lib.hid h1; have HB1 := Lib.hid hb1; have HK1 := Lib.hid hk1; clear h1 hb1 hk1)
  go_ret
  exact ⟨rfl, H1.out, HB1.out, HK1.out⟩
theorem Bytes_eq (B b : Nat) (l : List UInt8) (t : ByteArray) (ht : (⟨l.toArray⟩ : ByteArray) = t) (w : World) (h : Bo.Read B b l w) (hB : B ≤ w.heap.size) :
    Calls Tryd.prog 24 #[.pointer (some ⟨b, 0, none⟩)] w fun e w' => e = .returned (.string t) ∧ Bo.Read B b l w' ∧ Below B w w' ∧ Bo.Kept w w' := ht ▸ Bytes_any B b l w h hB
end Go.Proofs.YtkpecnkflibmjaaDoor.Wi
