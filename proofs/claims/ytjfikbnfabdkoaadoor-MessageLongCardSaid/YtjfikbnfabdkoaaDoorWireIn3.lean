/- wire.In: texts; what is left; the end. -/
import Derived.Test.YtjfikbnfabdkoaaDoorWireIn2
set_option linter.unusedVariables false
set_option linter.unusedSimpArgs false
namespace Go.Proofs.YtjfikbnfabdkoaaDoor.Wi
open Go.RowKit Go.Proofs.YtjfikbnfabdkoaaDoor.Ow
def byteR (s : ByteArray) (c : Nat) : Nat := numV (rawR s c 1).data.toList
set_option maxHeartbeats 400000 in
theorem InBool_any (w : World) (E : Nat → Value) (b : Nat) (s : ByteArray) (c : Nat) (hs : s.size ≤ 9223372036854775807) (hE : Errs w E) (hb : Gl b) (h : IsIn w b s (evV E c)) :
    Calls Tryd.prog 66 #[.pointer (some ⟨b, 0, none⟩)] w (Gave E b w (.bool (numV (rawR s c 1).data.toList != 0)) (rawS s c 1) (rawC s c 1)) := by
  have H := Lib.hid h
  have HE := Lib.hid hE
  have hn := num1_lt s c
  clear h hE
  go_enter Tryd.func66, Tryd.ntmps66
  go_wp2_with (go_at_call 63; refine (InByte_any w E b s c hs HE.out hb H.out).mono ?_; rintro e w1 ⟨rfl, h1, hg1⟩; skip; have H1 := Lib.hid h1; have HG1 := Lib.hid hg1; clear h1 hg1)
  go_ret
  refine ⟨?_, H1.out, HG1.out⟩
  show Ending.returned (.bool (!(((numV (rawR s c 1).data.toList : Nat) : Int) == 0))) = _
  congr 2
  rw [Bool.eq_iff_iff]; simp
/-- Text's number of bytes -/
def txtN (s : ByteArray) (c : Nat) : Nat := numV (rawR s c 4).data.toList
def txtBig (s : ByteArray) (c : Nat) (most : Int) : Bool := decide (rawC s c 4 = 0 ∧ most < (txtN s c : Int))
def txtR (s : ByteArray) (c : Nat) (most : Int) : ByteArray := if txtBig s c most then ⟨#[]⟩ else rawR (rawS s c 4) (rawC s c 4) (txtN s c)
def txtS (s : ByteArray) (c : Nat) (most : Int) : ByteArray := if txtBig s c most then ⟨#[]⟩ else rawS (rawS s c 4) (rawC s c 4) (txtN s c)
def txtC (s : ByteArray) (c : Nat) (most : Int) : Nat := if txtBig s c most then 4 else rawC (rawS s c 4) (rawC s c 4) (txtN s c)
theorem rawS_size (s : ByteArray) (c n : Nat) : (rawS s c n).size ≤ s.size := by
  unfold rawS; split
  · split
    · rw [ByteArray.size_extract]; omega
    · exact Nat.zero_le _
  · exact Nat.le_refl _
set_option maxHeartbeats 1000000 in
theorem InText_any (w : World) (E : Nat → Value) (b : Nat) (s : ByteArray) (c : Nat) (most : Int) (hs : s.size ≤ 9223372036854775807) (hE : Errs w E) (hb : Gl b) (h : IsIn w b s (evV E c)) :
    Calls Tryd.prog 67 #[.pointer (some ⟨b, 0, none⟩), .int .i64 most] w (Gave E b w (.string (txtR s c most)) (txtS s c most) (txtC s c most)) := by
  have H := Lib.hid h
  have HE := Lib.hid hE
  have hn : txtN s c < 4294967296 := num4_lt s c
  have hsz := rawS_size s c 4
  obtain ⟨s1, hs1⟩ : ∃ s1, rawS s c 4 = s1 := ⟨_, rfl⟩
  obtain ⟨c1, hc1⟩ : ∃ c1, rawC s c 4 = c1 := ⟨_, rfl⟩
  obtain ⟨n, hn1⟩ : ∃ n, txtN s c = n := ⟨_, rfl⟩
  rw [hs1] at hsz
  rw [hn1] at hn
  have HS1 := Lib.hid hs1
  have HC1 := Lib.hid hc1
  have HN1 := Lib.hid hn1
  clear h hE hs1 hc1 hn1
  by_cases hz : c1 = 0
  · subst hz
    by_cases hm : most < (n : Int)
    · have HR := Lib.hid (show txtBig s c most = true by unfold txtBig; rw [HC1.out, HN1.out]; simp; exact hm)
      obtain ⟨a4, ha4⟩ := HE.out.is 4 (by decide)
      have HA := Lib.hid ha4
      clear ha4
      go_enter Tryd.func67, Tryd.ntmps67
      go_wp2_with (first
        | (go_at_call 65; refine (InU32_any w E b s c hs HE.out hb H.out).mono ?_; rintro e w1 ⟨rfl, h1, hg1⟩; skip
           rw [HS1.out, HC1.out, evV_zero] at h1
           rw [show numV (rawR s c 4).data.toList = n from HN1.out]
           have hc1 : w1.cell? ⟨b, 1, none⟩ = some .nilIface := h1.cell 1 rfl
           have hE1 := HE.out.keep hg1 hb
           have hbg := hE1.big
           rw [HA.out] at hbg
           have HE1 := Lib.hid hE1
           have H1 := Lib.hid h1; have HG1 := Lib.hid hg1; clear h1 hg1 hE1)
        | (go_at_call 93; refine (fail_none w1 b s1 _ _ H1.out).mono ?_; rintro e w2 ⟨rfl, h2, hg2⟩; skip
           rw [← HA.out] at h2
           have H2 := Lib.hid (show IsIn w2 b ⟨#[]⟩ (evV E 4) from h2); have HE2 := Lib.hid (HE1.out.keep hg2 hb); have HG2 := Lib.hid (World.grownBy.trans HG1.out hg2); clear h2 hg2 hc1 hbg)
        | (go_at_call 69; refine (InRaw_any w2 E b ⟨#[]⟩ 4 _ (by omega) (by decide) HE2.out hb H2.out).mono ?_; rintro e w3 ⟨rfl, h3, hg3⟩; skip
           have H3 := Lib.hid h3; have HG3 := Lib.hid (World.grownBy.trans HG2.out hg3); clear h3 hg3))
      go_ret
      refine ⟨?_, ?_, HG3.out⟩
      · unfold txtR; rw [HR.out, if_pos rfl]; rfl
      · unfold txtS txtC; rw [HR.out, if_pos rfl, if_pos rfl]; exact H3.out
    · have HR := Lib.hid (show txtBig s c most = false by unfold txtBig; rw [HC1.out, HN1.out]; simp; omega)
      have hd : ¬ most < (n : Int) := hm
      go_enter Tryd.func67, Tryd.ntmps67
      go_wp2_with (first
        | (go_at_call 65; refine (InU32_any w E b s c hs HE.out hb H.out).mono ?_; rintro e w1 ⟨rfl, h1, hg1⟩; skip
           rw [HS1.out, HC1.out] at h1
           rw [show numV (rawR s c 4).data.toList = n from HN1.out]
           have hc1 : w1.cell? ⟨b, 1, none⟩ = some .nilIface := h1.cell 1 rfl
           have HE1 := Lib.hid (HE.out.keep hg1 hb)
           have H1 := Lib.hid h1; have HG1 := Lib.hid hg1; clear h1 hg1)
        | (go_at_call 69; refine (InRaw_any w1 E b s1 0 _ (by omega) (by omega) HE1.out hb H1.out).mono ?_; rintro e w3 ⟨rfl, h3, hg3⟩; skip
           have H3 := Lib.hid h3; have HG3 := Lib.hid (World.grownBy.trans HG1.out hg3); clear h3 hg3))
      go_ret
      refine ⟨?_, ?_, HG3.out⟩
      · unfold txtR; rw [HR.out, if_neg (by decide), HS1.out, HC1.out, HN1.out]; rfl
      · unfold txtS txtC; rw [HR.out, if_neg (by decide), if_neg (by decide), HS1.out, HC1.out, HN1.out]; exact H3.out
  · have HR := Lib.hid (show txtBig s c most = false by unfold txtBig; rw [HC1.out]; simp [hz])
    obtain ⟨ac, hac⟩ := HE.out.is c1 hz
    have HEV := Lib.hid (show evV E c1 = .iface 189 (.pointer (some ac)) by rw [evV_pos E hz, hac])
    clear hac hz
    go_enter Tryd.func67, Tryd.ntmps67
    go_wp2_with (first
      | (go_at_call 65; refine (InU32_any w E b s c hs HE.out hb H.out).mono ?_; rintro e w1 ⟨rfl, h1, hg1⟩; skip
         rw [HS1.out, HC1.out] at h1
         rw [show numV (rawR s c 4).data.toList = n from HN1.out]
         have h1x := h1; rw [HEV.out] at h1x; have hc1 : w1.cell? ⟨b, 1, none⟩ = some (.iface 189 (.pointer (some ac))) := h1x.cell 1 rfl; clear h1x
         have HE1 := Lib.hid (HE.out.keep hg1 hb)
         have H1 := Lib.hid h1; have HG1 := Lib.hid hg1; clear h1 hg1)
      | (go_at_call 69; refine (InRaw_any w1 E b s1 c1 _ (by omega) (by omega) HE1.out hb H1.out).mono ?_; rintro e w3 ⟨rfl, h3, hg3⟩; skip
         have H3 := Lib.hid h3; have HG3 := Lib.hid (World.grownBy.trans HG1.out hg3); clear h3 hg3))
    go_ret
    refine ⟨?_, ?_, HG3.out⟩
    · unfold txtR; rw [HR.out, if_neg (by decide), HS1.out, HC1.out, HN1.out]; rfl
    · unfold txtS txtC; rw [HR.out, if_neg (by decide), if_neg (by decide), HS1.out, HC1.out, HN1.out]; exact H3.out

theorem InLeft_any (w : World) (E : Nat → Value) (b : Nat) (s : ByteArray) (e0 : Value) (h : IsIn w b s e0) :
    Calls Tryd.prog 70 #[.pointer (some ⟨b, 0, none⟩)] w fun e w' => e = .returned (.int .i64 s.size) ∧ w = w' := by
  have h0 := h.cell 0 (v := .string s) rfl
  clear h
  go_enter Tryd.func70, Tryd.ntmps70
  go_wp2
  go_ret
  exact ⟨rfl, rfl⟩
theorem InErr_any (w : World) (b : Nat) (s : ByteArray) (e0 : Value) (h : IsIn w b s e0) :
    Calls Tryd.prog 64 #[.pointer (some ⟨b, 0, none⟩)] w fun e w' => e = .returned e0 ∧ w = w' := by
  have h1 := h.cell 1 (v := e0) rfl
  clear h
  go_enter Tryd.func64, Tryd.ntmps64
  go_wp2
  go_ret
  exact ⟨rfl, rfl⟩
theorem Of_any (w : World) (s : ByteArray) :
    Calls Tryd.prog 62 #[.string s] w fun e w' => e = .returned (.pointer (some ⟨w.heap.size, 0, none⟩)) ∧ IsIn w' w.heap.size s .nilIface ∧ Below w.heap.size w w' := by
  have HI := Lib.hid (show IsIn (w.alloc (.cells #[.string s, .nilIface] 152)) w.heap.size s .nilIface from Rg.Blk.new w _ _)
  have HB := Lib.hid (show Below w.heap.size w (w.alloc (.cells #[.string s, .nilIface] 152)) from (Below.refl _ _).alloc (Nat.le_refl _) _)
  go_enter Tryd.func62, Tryd.ntmps62
  go_wp2
  go_ret
  exact ⟨rfl, HI.out, HB.out⟩
/-- End: bytes that are left are an error, if there is none yet -/
def endC (s : ByteArray) (c : Nat) : Nat := if c = 0 ∧ s.size ≠ 0 then 3 else c
def endS (s : ByteArray) (c : Nat) : ByteArray := if c = 0 then ⟨#[]⟩ else s
theorem empty_of_size {s : ByteArray} (h : s.size = 0) : s = ⟨#[]⟩ := by
  apply ByteArray.ext; apply Array.toList_inj.1
  exact List.eq_nil_of_length_eq_zero (by rw [Array.length_toList]; exact h)
theorem toList_empty {s : ByteArray} (h : s.size = 0) : s.toList = [] := by rw [ByteArray.toList_eq, empty_of_size h]
theorem toList_ne {s : ByteArray} (h : s.size ≠ 0) : s.toList.isEmpty = false := by
  rw [List.isEmpty_eq_false_iff, ByteArray.toList_eq]
  intro e
  have := congrArg List.length e
  rw [Array.length_toList] at this
  exact h this
set_option maxHeartbeats 1000000 in
theorem InEnd_any (w : World) (E : Nat → Value) (b : Nat) (s : ByteArray) (c : Nat) (hE : Errs w E) (hb : Gl b) (h : IsIn w b s (evV E c)) :
    Calls Tryd.prog 71 #[.pointer (some ⟨b, 0, none⟩)] w (Gave E b w (evV E (endC s c)) (endS s c) (endC s c)) := by
  have H := Lib.hid h
  have HE := Lib.hid hE
  have h0 := H.out.cell 0 (v := .string s) rfl
  by_cases hs : s.size = 0
  · have hl := toList_empty hs
    have hl2 : s.toList.isEmpty = true := by rw [hl]; rfl
    have HC := Lib.hid (show endC s c = c from if_neg fun e => e.2 hs)
    have HS := Lib.hid (show endS s c = s by unfold endS; split; exact (empty_of_size hs).symm; rfl)
    have h1 := H.out.cell 1 (v := evV E c) rfl
    clear h hE hs
    go_enter Tryd.func71, Tryd.ntmps71
    go_wp2
    go_ret
    exact ⟨by rw [HC.out]; rfl, by rw [HC.out, HS.out]; exact H.out, World.grownBy.refl _ _⟩
  · have hl2 := toList_ne hs
    obtain ⟨a3, ha3⟩ := HE.out.is 3 (by decide)
    have hfm := HE.out.form
    rw [ha3] at hfm
    have HA := Lib.hid ha3
    clear ha3
    by_cases hz : c = 0
    · subst hz
      have HC := Lib.hid (show endC s 0 = 3 from if_pos ⟨rfl, hs⟩)
      have HS := Lib.hid (show endS s 0 = ⟨#[]⟩ from rfl)
      clear h hE hs
      go_enter Tryd.func71, Tryd.ntmps71
      go_wp2_with (go_at_call 93; refine (fail_none w b s _ _ H.out).mono ?_; rintro e w2 ⟨rfl, h2, hg2⟩; skip
                   have h3 := h2.cell 1 (v := .iface 189 (.pointer (some a3))) rfl
                   rw [← HA.out] at h2
                   have H2 := Lib.hid (show IsIn w2 b ⟨#[]⟩ (evV E 3) from h2); have HG2 := Lib.hid hg2; clear h2 hg2)
      go_ret
      exact ⟨by rw [HC.out]; show _ = Ending.returned (E 3); rw [HA.out]; rfl, by rw [HC.out, HS.out]; exact H2.out, HG2.out⟩
    · have HC := Lib.hid (show endC s c = c from if_neg fun e => hz e.1)
      have HS := Lib.hid (show endS s c = s from if_neg hz)
      obtain ⟨ac, hac⟩ := HE.out.is c hz
      have HEV := Lib.hid (show evV E c = .iface 189 (.pointer (some ac)) by rw [evV_pos E hz, hac])
      have h1 : w.cell? ⟨b, 1, none⟩ = some (.iface 189 (.pointer (some ac))) := by rw [HEV.out] at h; exact h.cell 1 rfl
      have H' := Lib.hid (HEV.out ▸ h)
      clear h hE hs hac hz
      go_enter Tryd.func71, Tryd.ntmps71
      go_wp2_with (go_at_call 93; refine (fail_some w b s _ _ _ H'.out).mono ?_; rintro e w2 ⟨rfl, rfl⟩; skip)
      go_ret
      exact ⟨by rw [HC.out, HEV.out]; rfl, by rw [HC.out, HS.out]; exact H.out, World.grownBy.refl _ _⟩
end Go.Proofs.YtjfikbnfabdkoaaDoor.Wi
