/- wire.In: big numbers. -/
import Derived.Test.YtkpecnkflibmjaaDoorWireName
set_option linter.unusedVariables false
set_option linter.unusedSimpArgs false
namespace Go.Proofs.YtkpecnkflibmjaaDoor.Wi
open Go.RowKit Go.Proofs.YtkpecnkflibmjaaDoor.Ow
def bmost (most : Int) : Int := if 4096 < most then 4096 else most
def bq (most : Int) : Int := max (bmost most) 0 + 1
/-- a text without the zero ahead -/
def tp (r : ByteArray) : ByteArray := ⟨(Lib.trimPrefix r.data.toList [0]).toArray⟩
/-- may a text not be a number's? -/
def badB (l t : List UInt8) : Bool := decide (128 ≤ (l.headD 0).toNat) || decide (t = []) || (decide (t ≠ l) && decide ((t.headD 0).toNat < 128))
def bigK (s : ByteArray) (c : Nat) (most : Int) : Nat :=
  if (txtR s c (bq most)).size = 0 then 0
  else if badB (txtR s c (bq most)).data.toList (tp (txtR s c (bq most))).data.toList then 3
  else if bmost most < ((tp (txtR s c (bq most))).size : Int) then 4 else 1
def bigR (s : ByteArray) (c : Nat) (most : Int) : ByteArray := if bigK s c most = 1 then tp (txtR s c (bq most)) else ⟨#[]⟩
def bigS (s : ByteArray) (c : Nat) (most : Int) : ByteArray := if bigK s c most ≤ 1 then txtS s c (bq most) else ⟨#[]⟩
def bigC (s : ByteArray) (c : Nat) (most : Int) : Nat := if bigK s c most ≤ 1 then txtC s c (bq most) else bigK s c most
theorem rawR_pos {s : ByteArray} {c n : Nat} (h : (rawR s c n).size ≠ 0) : rawC s c n = 0 := by
  unfold rawR at h
  split at h
  · rename_i hc; unfold rawC; rw [if_pos hc.1, if_pos hc.2]
  · exact absurd rfl h
theorem txtR_pos {s : ByteArray} {c : Nat} {most : Int} (h : (txtR s c most).size ≠ 0) : txtC s c most = 0 := by
  unfold txtR at h
  unfold txtC
  split at h
  · exact absurd rfl h
  · rename_i hb; rw [if_neg hb]; exact rawR_pos h
theorem txtR_size (s : ByteArray) (c : Nat) (most : Int) : (txtR s c most).size ≤ s.size := by
  unfold txtR
  split
  · exact Nat.zero_le _
  · unfold rawR
    split
    · rw [ByteArray.size_extract]
      have := rawS_size s c 4
      omega
    · exact Nat.zero_le _
theorem tp_zero {r : ByteArray} (h : 0 < r.size) (h0 : r[0] = 0) : (tp r).data.toList = r.data.toList.drop 1 := by
  obtain ⟨⟨l⟩⟩ := r
  cases l with
  | nil => exact absurd h (Nat.lt_irrefl 0)
  | cons x l =>
    have : x = 0 := h0
    subst this
    rfl
theorem tp_same {r : ByteArray} (h : 0 < r.size) (h0 : r[0] ≠ 0) : tp r = r := by
  obtain ⟨⟨l⟩⟩ := r
  cases l with
  | nil => exact absurd h (Nat.lt_irrefl 0)
  | cons x l =>
    have hx : x ≠ 0 := h0
    unfold tp Lib.trimPrefix Lib.hasPrefix
    simp [hx, Ne.symm hx]
theorem head_get' (s : ByteArray) (h : 0 < s.size) : s.data.toList.headD 0 = s[0] := by
  obtain ⟨⟨l⟩⟩ := s
  cases l with
  | nil => exact absurd h (Nat.lt_irrefl 0)
  | cons x l => rfl
theorem trimP_any (r t : ByteArray) (ht : tp r = t) (W : World) : Calls Tryd.prog 49 #[.string r, .string ⟨#[0]⟩] W fun e w' => e = .returned (.string t) ∧ W = w' := by
  refine (Tryd.strings_TrimPrefix r ⟨#[0]⟩ W).mono ?_
  rintro e w' ⟨rfl, h⟩
  subst ht
  exact ⟨rfl, h.symm⟩
set_option maxRecDepth 20000 in
set_option maxHeartbeats 2000000 in
theorem InBig_any (w : World) (E : Nat → Value) (b : Nat) (s : ByteArray) (c : Nat) (most : Int) (hs : s.size ≤ 9223372036854775807) (hE : Errs w E) (hb : Gl b) (h : IsIn w b s (evV E c)) (hm0 : -9223372036854775808 ≤ most) :
    Calls Tryd.prog 30 #[.pointer (some ⟨b, 0, none⟩), .int .i64 most] w (Gave E b w (.string (bigR s c most)) (bigS s c most) (bigC s c most)) := by
  have H := Lib.hid h
  have HE := Lib.hid hE
  obtain ⟨q, hq⟩ : ∃ q, bmost most = q := ⟨_, rfl⟩
  obtain ⟨Q, hQ⟩ : ∃ Q, bq most = Q := ⟨_, rfl⟩
  have hsz := txtR_size s c Q
  obtain ⟨r, hr⟩ : ∃ r, txtR s c Q = r := ⟨_, rfl⟩
  obtain ⟨s1, hs1⟩ : ∃ s1, txtS s c Q = s1 := ⟨_, rfl⟩
  obtain ⟨c1, hc1⟩ : ∃ c1, txtC s c Q = c1 := ⟨_, rfl⟩
  rw [hr] at hsz
  have HQ := Lib.hid (show bq most = Q from hQ)
  have HBM := Lib.hid (show bmost most = q from hq)
  have HR := Lib.hid hr
  have HS1 := Lib.hid hs1
  have HC1 := Lib.hid hc1
  obtain ⟨a3, ha3⟩ := HE.out.is 3 (by decide)
  obtain ⟨a4, ha4⟩ := HE.out.is 4 (by decide)
  have HA3 := Lib.hid ha3
  have HA4 := Lib.hid ha4
  have hcase : (4096 < most ∧ q = 4096 ∧ Q = 4097 ∧ max (4096 : Int) 0 = 4096) ∨ (most ≤ 4096 ∧ most = q ∧ ∃ m, max most 0 = m ∧ 0 ≤ m ∧ m ≤ 4096 ∧ Q = m + 1) := by
    rcases Int.lt_or_le 4096 most with h4 | h4
    · left
      have : q = 4096 := by rw [← hq]; unfold bmost; rw [if_pos h4]
      refine ⟨h4, this, ?_, by decide⟩
      rw [← hQ]; unfold bq; rw [hq, this]; rfl
    · right
      have : most = q := by rw [← hq]; unfold bmost; rw [if_neg (by omega)]
      exact ⟨h4, this, _, rfl, by omega, by omega, by rw [← hQ]; unfold bq; rw [hq, ← this]⟩
  clear h hE hr hs1 hc1 hq hQ ha3 ha4
  by_cases hr0 : r.size = 0
  · have HK := Lib.hid (show bigK s c most = 0 by unfold bigK; rw [HQ.out, HR.out, if_pos hr0])
    have hl := toList_empty hr0
    have hl2 : r.toList.isEmpty = true := by rw [hl]; rfl
    clear hr0
    rcases hcase with ⟨h4, rfl, rfl, hmx⟩ | ⟨h4, rfl, m, hmx, hm1, hm2, rfl⟩
    all_goals
      go_enter Tryd.func30, Tryd.ntmps30
      go_wp2_with (first
        | (go_at_call 27; refine (InText_any w E b s c _ hs HE.out hb H.out).mono ?_; rintro e w1 ⟨rfl, h1, hg1⟩; skip
           rw [HS1.out, HC1.out] at h1
           rw [HR.out]
           have H1 := Lib.hid h1; have HG1 := Lib.hid hg1; clear h1 hg1)
        | (go_at_call 49; refine (Tryd.strings_TrimPrefix r ⟨#[0]⟩ _).mono ?_; rintro e w1' ⟨rfl, rfl⟩; skip; rw [TPE.out]))
      go_ret
      refine ⟨?_, ?_, HG1.out⟩
      · rw [show bigR s c most = ⟨#[]⟩ by unfold bigR; rw [HK.out]; rfl]; rfl
      · rw [show bigS s c most = s1 by unfold bigS; rw [HK.out, HQ.out, HS1.out]; rfl, show bigC s c most = c1 by unfold bigC; rw [HK.out, HQ.out, HC1.out]; rfl]; exact H1.out
  · have hl2 := toList_ne hr0
    have hrp : 0 < r.size := by omega
    have hc10 : c1 = 0 := by rw [← HC1.out]; exact txtR_pos (by rw [HR.out]; exact hr0)
    subst hc10
    have HH := Lib.hid (head_get' r hrp)
    obtain ⟨t, ht⟩ : ∃ t, tp r = t := ⟨_, rfl⟩
    have HTP := Lib.hid ht
    have hts : t.size ≤ r.size := by
      rw [← ht]
      by_cases h0 : r[0] = 0
      · have := congrArg List.length (tp_zero hrp h0)
        rw [List.length_drop, Array.length_toList, Array.length_toList] at this
        show (tp r).data.size ≤ r.data.size
        omega
      · rw [tp_same hrp h0]; exact Nat.le_refl _
    clear ht
    by_cases h8 : 128 ≤ r[0].toNat
    · have HBD := Lib.hid (show badB r.data.toList t.data.toList = true by unfold badB; rw [HH.out]; simp [h8])
      have HK := Lib.hid (show bigK s c most = 3 by unfold bigK; rw [HQ.out, HR.out, if_neg hr0, HTP.out, HBD.out, if_pos rfl])
      have hd : decide ((128 : Int) ≤ (r[0].toNat : Int)) = true := by rw [decide_eq_true_eq]; omega
      clear h8 hr0
      rcases hcase with ⟨h4, rfl, rfl, hmx⟩ | ⟨h4, rfl, m, hmx, hm1, hm2, rfl⟩
      all_goals
        go_enter Tryd.func30, Tryd.ntmps30
        go_wp2_with (first
          | (go_at_call 27; refine (InText_any w E b s c _ hs HE.out hb H.out).mono ?_; rintro e w1 ⟨rfl, h1, hg1⟩; skip
             rw [HS1.out, HC1.out] at h1
             rw [HR.out]
             have hE1 := HE.out.keep hg1 hb
             have hgl := hE1.form
             rw [HA3.out] at hgl
             have HE1 := Lib.hid hE1
             have H1 := Lib.hid h1; have HG1 := Lib.hid hg1; clear h1 hg1 hE1)
          | (go_at_call 49; refine (trimP_any _ t HTP.out _).mono ?_; rintro e w1' ⟨rfl, rfl⟩; skip)
          | (go_at_call 46; refine (fail_none w1 b s1 _ _ H1.out).mono ?_; rintro e w2 ⟨rfl, h2, hg2⟩; skip
             rw [← HA3.out] at h2
             have H2 := Lib.hid (show IsIn w2 b ⟨#[]⟩ (evV E 3) from h2); have HG2 := Lib.hid (World.grownBy.trans HG1.out hg2); clear h2 hg2))
        go_ret
        refine ⟨?_, ?_, HG2.out⟩
        · rw [show bigR s c most = ⟨#[]⟩ by unfold bigR; rw [HK.out]; rfl]; rfl
        · rw [show bigS s c most = ⟨#[]⟩ by unfold bigS; rw [HK.out]; rfl, show bigC s c most = 3 by unfold bigC; rw [HK.out]; rfl]; exact H2.out
    · have hd : decide ((128 : Int) ≤ (r[0].toNat : Int)) = false := by rw [decide_eq_false_iff_not]; omega
      by_cases h0 : r[0] = 0
      · have HT := Lib.hid (show t.data.toList = r.data.toList.drop 1 by rw [← HTP.out]; exact tp_zero hrp h0)
        have htr : t.size + 1 = r.size := by
          have := congrArg List.length HT.out
          rw [List.length_drop, Array.length_toList, Array.length_toList] at this
          have e1 : t.data.size = t.size := rfl
          have e2 : r.data.size = r.size := rfl
          omega
        by_cases ht0 : t.size = 0
        · have HBD := Lib.hid (show badB r.data.toList t.data.toList = true by
            have : t.data.toList = [] := by rw [empty_of_size ht0]
            unfold badB; rw [this]; simp)
          have HK := Lib.hid (show bigK s c most = 3 by unfold bigK; rw [HQ.out, HR.out, if_neg hr0, HTP.out, HBD.out, if_pos rfl])
          have hl3 := toList_empty ht0
          have hl4 : t.toList.isEmpty = true := by rw [hl3]; rfl
          clear h8 hr0 h0 ht0 htr
          rcases hcase with ⟨h4, rfl, rfl, hmx⟩ | ⟨h4, rfl, m, hmx, hm1, hm2, rfl⟩
          all_goals
            go_enter Tryd.func30, Tryd.ntmps30
            go_wp2_with (first
              | (go_at_call 27; refine (InText_any w E b s c _ hs HE.out hb H.out).mono ?_; rintro e w1 ⟨rfl, h1, hg1⟩; skip
                 rw [HS1.out, HC1.out] at h1
                 rw [HR.out]
                 have hE1 := HE.out.keep hg1 hb
                 have hgl := hE1.form
                 rw [HA3.out] at hgl
                 have HE1 := Lib.hid hE1
                 have H1 := Lib.hid h1; have HG1 := Lib.hid hg1; clear h1 hg1 hE1)
              | (go_at_call 49; refine (trimP_any _ t HTP.out _).mono ?_; rintro e w1' ⟨rfl, rfl⟩; skip)
              | (go_at_call 46; refine (fail_none w1 b s1 _ _ H1.out).mono ?_; rintro e w2 ⟨rfl, h2, hg2⟩; skip
                 rw [← HA3.out] at h2
                 have H2 := Lib.hid (show IsIn w2 b ⟨#[]⟩ (evV E 3) from h2); have HG2 := Lib.hid (World.grownBy.trans HG1.out hg2); clear h2 hg2))
            go_ret
            refine ⟨?_, ?_, HG2.out⟩
            · rw [show bigR s c most = ⟨#[]⟩ by unfold bigR; rw [HK.out]; rfl]; rfl
            · rw [show bigS s c most = ⟨#[]⟩ by unfold bigS; rw [HK.out]; rfl, show bigC s c most = 3 by unfold bigC; rw [HK.out]; rfl]; exact H2.out
        · have hl3 := toList_ne ht0
          have htp : 0 < t.size := by omega
          have hne : t.data.toList ≠ r.data.toList := fun e => by
            have := congrArg List.length e
            rw [Array.length_toList, Array.length_toList] at this
            have e1 : t.data.size = t.size := rfl
            have e2 : r.data.size = r.size := rfl
            omega
          have hne2 : (t.toList == r.toList) = false := by rw [beq_eq_false_iff_ne, ByteArray.toList_eq, ByteArray.toList_eq]; exact hne
          have HHT := Lib.hid (head_get' t htp)
          by_cases ht8 : t[0].toNat < 128
          · have HBD := Lib.hid (show badB r.data.toList t.data.toList = true by unfold badB; rw [HHT.out]; simp [hne, ht8])
            have HK := Lib.hid (show bigK s c most = 3 by unfold bigK; rw [HQ.out, HR.out, if_neg hr0, HTP.out, HBD.out, if_pos rfl])
            have hd2 : decide ((t[0].toNat : Int) < 128) = true := by rw [decide_eq_true_eq]; omega
            clear h8 hr0 h0 ht0 htr hne ht8
            rcases hcase with ⟨h4, rfl, rfl, hmx⟩ | ⟨h4, rfl, m, hmx, hm1, hm2, rfl⟩
            all_goals
              go_enter Tryd.func30, Tryd.ntmps30
              go_wp2_with (first
                | (go_at_call 27; refine (InText_any w E b s c _ hs HE.out hb H.out).mono ?_; rintro e w1 ⟨rfl, h1, hg1⟩; skip
                   rw [HS1.out, HC1.out] at h1
                   rw [HR.out]
                   have hE1 := HE.out.keep hg1 hb
                   have hgl := hE1.form
                   rw [HA3.out] at hgl
                   have HE1 := Lib.hid hE1
                   have H1 := Lib.hid h1; have HG1 := Lib.hid hg1; clear h1 hg1 hE1)
                | (go_at_call 49; refine (trimP_any _ t HTP.out _).mono ?_; rintro e w1' ⟨rfl, rfl⟩; skip)
                | (go_at_call 46; refine (fail_none w1 b s1 _ _ H1.out).mono ?_; rintro e w2 ⟨rfl, h2, hg2⟩; skip
                   rw [← HA3.out] at h2
                   have H2 := Lib.hid (show IsIn w2 b ⟨#[]⟩ (evV E 3) from h2); have HG2 := Lib.hid (World.grownBy.trans HG1.out hg2); clear h2 hg2))
              go_ret
              refine ⟨?_, ?_, HG2.out⟩
              · rw [show bigR s c most = ⟨#[]⟩ by unfold bigR; rw [HK.out]; rfl]; rfl
              · rw [show bigS s c most = ⟨#[]⟩ by unfold bigS; rw [HK.out]; rfl, show bigC s c most = 3 by unfold bigC; rw [HK.out]; rfl]; exact H2.out
          · have HBD := Lib.hid (show badB r.data.toList t.data.toList = false by
              have : t.data.toList ≠ [] := fun e => by have h := congrArg List.length e; rw [Array.length_toList] at h; exact ht0 h
              unfold badB; rw [HH.out, HHT.out]; simp [h8, ht8, this])
            have hd2 : decide ((t[0].toNat : Int) < 128) = false := by rw [decide_eq_false_iff_not]; omega
            clear h8 h0 ht0 htr hne ht8
            by_cases hq : q < (t.size : Int)
            · have HK := Lib.hid (show bigK s c most = 4 by unfold bigK; rw [HQ.out, HR.out, if_neg hr0, HTP.out, HBD.out, HBM.out, if_neg (by decide), if_pos hq])
              clear hr0
              rcases hcase with ⟨h4, rfl, rfl, hmx⟩ | ⟨h4, rfl, m, hmx, hm1, hm2, rfl⟩
              all_goals
                go_enter Tryd.func30, Tryd.ntmps30
                go_wp2_with (first
                  | (go_at_call 27; refine (InText_any w E b s c _ hs HE.out hb H.out).mono ?_; rintro e w1 ⟨rfl, h1, hg1⟩; skip
                     rw [HS1.out, HC1.out] at h1
                     rw [HR.out]
                     have hE1 := HE.out.keep hg1 hb
                     have hgl := hE1.big
                     rw [HA4.out] at hgl
                     have HE1 := Lib.hid hE1
                     have H1 := Lib.hid h1; have HG1 := Lib.hid hg1; clear h1 hg1 hE1)
                  | (go_at_call 49; refine (trimP_any _ t HTP.out _).mono ?_; rintro e w1' ⟨rfl, rfl⟩; skip)
                  | (go_at_call 46; refine (fail_none w1 b s1 _ _ H1.out).mono ?_; rintro e w2 ⟨rfl, h2, hg2⟩; skip
                     rw [← HA4.out] at h2
                     have H2 := Lib.hid (show IsIn w2 b ⟨#[]⟩ (evV E 4) from h2); have HG2 := Lib.hid (World.grownBy.trans HG1.out hg2); clear h2 hg2))
                go_ret
                refine ⟨?_, ?_, HG2.out⟩
                · rw [show bigR s c most = ⟨#[]⟩ by unfold bigR; rw [HK.out]; rfl]; rfl
                · rw [show bigS s c most = ⟨#[]⟩ by unfold bigS; rw [HK.out]; rfl, show bigC s c most = 4 by unfold bigC; rw [HK.out]; rfl]; exact H2.out
            · have HK := Lib.hid (show bigK s c most = 1 by unfold bigK; rw [HQ.out, HR.out, if_neg hr0, HTP.out, HBD.out, HBM.out, if_neg (by decide), if_neg hq])
              have hq2 : (t.size : Int) ≤ q := by omega
              clear hr0 hq
              rcases hcase with ⟨h4, rfl, rfl, hmx⟩ | ⟨h4, rfl, m, hmx, hm1, hm2, rfl⟩
              all_goals
                go_enter Tryd.func30, Tryd.ntmps30
                go_wp2_with (first
                  | (go_at_call 27; refine (InText_any w E b s c _ hs HE.out hb H.out).mono ?_; rintro e w1 ⟨rfl, h1, hg1⟩; skip
                     rw [HS1.out, HC1.out] at h1
                     rw [HR.out]
                     have H1 := Lib.hid h1; have HG1 := Lib.hid hg1; clear h1 hg1)
                  | (go_at_call 49; refine (trimP_any _ t HTP.out _).mono ?_; rintro e w1' ⟨rfl, rfl⟩; skip))
                go_ret
                refine ⟨?_, ?_, HG1.out⟩
                · rw [show bigR s c most = t by unfold bigR; rw [HK.out, HQ.out, HR.out, HTP.out]; rfl]; rfl
                · rw [show bigS s c most = s1 by unfold bigS; rw [HK.out, HQ.out, HS1.out]; rfl, show bigC s c most = 0 by unfold bigC; rw [HK.out, HQ.out, HC1.out]; rfl]; exact H1.out
      · have HTR := Lib.hid (show t = r by rw [← HTP.out]; exact tp_same hrp h0)
        have htr := HTR.out
        have HBD := Lib.hid (show badB r.data.toList t.data.toList = false by
          have : r.data.toList ≠ [] := fun e => by have h := congrArg List.length e; rw [Array.length_toList] at h; exact hr0 h
          unfold badB; rw [htr, HH.out]; simp [h8, this])
        subst htr
        have hne2 : (t.toList == t.toList) = true := by simp
        clear h8 h0
        by_cases hq : q < (t.size : Int)
        · have HK := Lib.hid (show bigK s c most = 4 by unfold bigK; rw [HQ.out, HR.out, if_neg hr0, HTP.out, HBD.out, HBM.out, if_neg (by decide), if_pos hq])
          clear hr0
          rcases hcase with ⟨h4, rfl, rfl, hmx⟩ | ⟨h4, rfl, m, hmx, hm1, hm2, rfl⟩
          all_goals
            go_enter Tryd.func30, Tryd.ntmps30
            go_wp2_with (first
              | (go_at_call 27; refine (InText_any w E b s c _ hs HE.out hb H.out).mono ?_; rintro e w1 ⟨rfl, h1, hg1⟩; skip
                 rw [HS1.out, HC1.out] at h1
                 rw [HR.out]
                 have hE1 := HE.out.keep hg1 hb
                 have hgl := hE1.big
                 rw [HA4.out] at hgl
                 have HE1 := Lib.hid hE1
                 have H1 := Lib.hid h1; have HG1 := Lib.hid hg1; clear h1 hg1 hE1)
              | (go_at_call 49; refine (trimP_any _ t HTP.out _).mono ?_; rintro e w1' ⟨rfl, rfl⟩; skip)
              | (go_at_call 46; refine (fail_none w1 b s1 _ _ H1.out).mono ?_; rintro e w2 ⟨rfl, h2, hg2⟩; skip
                 rw [← HA4.out] at h2
                 have H2 := Lib.hid (show IsIn w2 b ⟨#[]⟩ (evV E 4) from h2); have HG2 := Lib.hid (World.grownBy.trans HG1.out hg2); clear h2 hg2))
            go_ret
            refine ⟨?_, ?_, HG2.out⟩
            · rw [show bigR s c most = ⟨#[]⟩ by unfold bigR; rw [HK.out]; rfl]; rfl
            · rw [show bigS s c most = ⟨#[]⟩ by unfold bigS; rw [HK.out]; rfl, show bigC s c most = 4 by unfold bigC; rw [HK.out]; rfl]; exact H2.out
        · have HK := Lib.hid (show bigK s c most = 1 by unfold bigK; rw [HQ.out, HR.out, if_neg hr0, HTP.out, HBD.out, HBM.out, if_neg (by decide), if_neg hq])
          have hq2 : (t.size : Int) ≤ q := by omega
          clear hr0 hq
          rcases hcase with ⟨h4, rfl, rfl, hmx⟩ | ⟨h4, rfl, m, hmx, hm1, hm2, rfl⟩
          all_goals
            go_enter Tryd.func30, Tryd.ntmps30
            go_wp2_with (first
              | (go_at_call 27; refine (InText_any w E b s c _ hs HE.out hb H.out).mono ?_; rintro e w1 ⟨rfl, h1, hg1⟩; skip
                 rw [HS1.out, HC1.out] at h1
                 rw [HR.out]
                 have H1 := Lib.hid h1; have HG1 := Lib.hid hg1; clear h1 hg1)
              | (go_at_call 49; refine (trimP_any _ t HTP.out _).mono ?_; rintro e w1' ⟨rfl, rfl⟩; skip))
            go_ret
            refine ⟨?_, ?_, HG1.out⟩
            · rw [show bigR s c most = t by unfold bigR; rw [HK.out, HQ.out, HR.out, HTP.out]; rfl]; rfl
            · rw [show bigS s c most = s1 by unfold bigS; rw [HK.out, HQ.out, HS1.out]; rfl, show bigC s c most = 0 by unfold bigC; rw [HK.out, HQ.out, HC1.out]; rfl]; exact H1.out
end Go.Proofs.YtkpecnkflibmjaaDoor.Wi
