/- Blobs of keys and signatures: the contracts. -/
import Derived.Test.YtjfikbnfabdkoaaGreatDoorBlobS
import Derived.Test.YtjfikbnfabdkoaaGreatDoorWirB
import Derived.Test.YtjfikbnfabdkoaaGreatDoorErrA
set_option linter.unusedVariables false
set_option linter.unusedSimpArgs false
namespace Go.Proofs.YtjfikbnfabdkoaaGreatDoor.Bl
open Go.RowKit Go.Proofs.YtjfikbnfabdkoaaGreatDoor.Wi Go.Proofs.YtjfikbnfabdkoaaGreatDoor.Ow Go.Proofs.YtjfikbnfabdkoaaGreatDoor.Be
theorem blob_out (s : ByteArray) : (⟨(([] ++ textL algoB.data.toList) ++ textL s.data.toList).toArray⟩ : ByteArray) = mkS (blobL s.data.toList) := by unfold mkS blobL; rw [List.nil_append]
theorem blob_any (w : World) (s : ByteArray) (hs : s.size ≤ 1000) :
    Calls Tryz.prog 18 #[.string s] w fun e w' => e = .returned (.string (mkS (blobL s.data.toList))) ∧ Below w.heap.size w w' := by
  have HO := Lib.hid (outFresh w)
  have HB := Lib.hid (show Below w.heap.size w (w.alloc (.cells #[.pointer none, .slice none 0 0] 81)) from (Below.refl _ _).alloc (Nat.le_refl _) _)
  have HA := Lib.hid (show ∀ W, IsOut w.heap.size w.heap.size [] W → w.heap.size ≤ W.heap.size → Calls Tryz.prog 42 #[.pointer (some ⟨w.heap.size, 0, none⟩), .string ⟨#[115, 115, 104, 45, 101, 100, 50, 53, 53, 49, 57]⟩] W (Wrote w.heap.size w.heap.size ([] ++ textL algoB.data.toList) W) from fun W h1 h2 => by
    rw [algo_eq]
    exact Text_any w.heap.size w.heap.size [] algoB (by rw [algo_size]; decide) _ h1 (by rw [algo_size]; decide) h2)
  have HT := Lib.hid (show ∀ W, IsOut w.heap.size w.heap.size ([] ++ textL algoB.data.toList) W → w.heap.size ≤ W.heap.size → Calls Tryz.prog 42 #[.pointer (some ⟨w.heap.size, 0, none⟩), .string s] W (Wrote w.heap.size w.heap.size (([] ++ textL algoB.data.toList) ++ textL s.data.toList) W) from fun W h1 h2 =>
    Text_any w.heap.size w.heap.size _ s (by omega) _ h1 (by unfold textL; simp only [List.nil_append, List.length_append, be_length, len_list, algo_size]; omega) h2)
  have HBY := Lib.hid (show ∀ W, Bo.Read w.heap.size w.heap.size (([] ++ textL algoB.data.toList) ++ textL s.data.toList) W → w.heap.size ≤ W.heap.size → Calls Tryz.prog 47 #[.pointer (some ⟨w.heap.size, 0, none⟩)] W fun e w' => e = .returned (.string (mkS (blobL s.data.toList))) ∧ Below w.heap.size W w' from fun W h1 h2 =>
    (Bytes_eq w.heap.size w.heap.size _ _ (blob_out s) W h1 h2).mono fun e w' ⟨h1, _, h3, _⟩ => ⟨h1, h3⟩)
  clear hs
  have tok := True.intro
  go_enter Tryz.func18, Tryz.ntmps18
  go_wp2_with (first
    | (go_at_call 42; have _t := tok; refine (HA.out _ HO.out HB.out.size).mono ?_; rintro e w1 ⟨rfl, h1, hb1⟩; skip; have H1 := Lib.hid h1; have HB1 := Lib.hid (HB.out.trans hb1.below); have tok2 := True.intro; clear h1 hb1 _t tok)
    | (go_at_call 42; have _t := tok2; refine (HT.out _ H1.out HB1.out.size).mono ?_; rintro e w2 ⟨rfl, h2, hb2⟩; skip; have H2 := Lib.hid (Bo.Read.of h2); have HB2 := Lib.hid (HB1.out.trans hb2.below); clear h2 hb2 _t tok2)
    | (go_at_call 47; refine (HBY.out _ H2.out HB2.out.size).mono ?_; rintro e w4 ⟨rfl, hb4⟩; skip; have HB4 := Lib.hid (HB2.out.trans hb4); clear hb4))
  go_ret
  exact ⟨rfl, HB4.out⟩
/-- what the reads of a text hand on -/
theorem open_any (w : World) (E : Nat → Value) (hE : Errs w E) (s : ByteArray) (hs : s.size ≤ 1000000) (size wrong : Nat) (hw : wrong ≠ 0) :
    Calls Tryz.prog 19 #[.string s, .int .i64 size, E wrong] w fun e w' => e = .returned (.tuple #[.string (opR s size wrong), evV E (opC s size wrong)]) ∧ Below w.heap.size w w' := by
  obtain ⟨r1, hr1⟩ : ∃ r, opW s = r := ⟨_, rfl⟩
  obtain ⟨s1, hs1⟩ : ∃ r, txtS s 0 s.size = r := ⟨_, rfl⟩
  obtain ⟨c1, hc1⟩ : ∃ r, txtC s 0 s.size = r := ⟨_, rfl⟩
  obtain ⟨r2, hr2⟩ : ∃ r, opX s = r := ⟨_, rfl⟩
  obtain ⟨s2, hs2⟩ : ∃ r, opS s = r := ⟨_, rfl⟩
  obtain ⟨c2, hc2⟩ : ∃ r, opE s = r := ⟨_, rfl⟩
  obtain ⟨c3, hc3⟩ : ∃ r, endC s2 c2 = r := ⟨_, rfl⟩
  have hsz1 : s1.size ≤ 1000000 := by
    rw [← hs1]
    unfold txtS
    split
    · exact Nat.zero_le _
    · exact Nat.le_trans (rawS_size _ _ _) (Nat.le_trans (rawS_size _ _ _) hs)
  have hC : opC s size wrong = if c3 ≠ 0 then c3 else if r1 = algoB ∧ r2.size = size then 0 else wrong := by unfold opC; rw [hs2, hc2, hc3, hr1, hr2]
  have hR : opR s size wrong = if opC s size wrong = 0 then r2 else ⟨#[]⟩ := by unfold opR; rw [hr2]
  have HT1 := Lib.hid (show ∀ W b, Errs W E → Gl b → IsIn W b s (evV E 0) → Calls Tryz.prog 31 #[.pointer (some ⟨b, 0, none⟩), .int .i64 s.size] W (Gave E b W (.string r1) s1 c1) from fun W b h1 h2 h3 => by
    have := InText_any W E b s 0 s.size (by omega) h1 h2 h3
    rw [show txtR s 0 s.size = r1 from hr1, hs1, hc1] at this
    exact this)
  have HT2 := Lib.hid (show ∀ W b, Errs W E → Gl b → IsIn W b s1 (evV E c1) → Calls Tryz.prog 31 #[.pointer (some ⟨b, 0, none⟩), .int .i64 s.size] W (Gave E b W (.string r2) s2 c2) from fun W b h1 h2 h3 => by
    have := InText_any W E b s1 c1 s.size (by omega) h1 h2 h3
    rw [show txtR s1 c1 s.size = r2 by rw [← hr2, ← hs1, ← hc1]; rfl, show txtS s1 c1 s.size = s2 by rw [← hs2, ← hs1, ← hc1]; rfl, show txtC s1 c1 s.size = c2 by rw [← hc2, ← hs1, ← hc1]; rfl] at this
    exact this)
  have HEN := Lib.hid (show ∀ W b, Errs W E → Gl b → IsIn W b s2 (evV E c2) → Calls Tryz.prog 35 #[.pointer (some ⟨b, 0, none⟩)] W fun e w' => e = .returned (evV E c3) ∧ W.grownBy w' (some b) from fun W b h1 h2 h3 => by
    refine (InEnd_any W E b s2 c2 h1 h2 h3).mono fun e w' ⟨h4, _, h5⟩ => ⟨?_, h5⟩
    rw [← hc3]; exact h4)
  have HE := Lib.hid hE
  have HG := Lib.hid (hE.gl (Nat.le_refl w.heap.size))
  have hEi := hE.is
  obtain ⟨av, hav⟩ := hEi wrong hw
  rw [hC] at hR
  rw [hC, hR]
  clear hr1 hs1 hc1 hr2 hs2 hc2 hc3 hE hs hsz1 hC hR
  have fin : ∀ (ev : Value) (x : ByteArray), evV E (if c3 ≠ 0 then c3 else if r1 = algoB ∧ r2.size = size then 0 else wrong) = ev → (if (if c3 ≠ 0 then c3 else if r1 = algoB ∧ r2.size = size then 0 else wrong) = 0 then r2 else ⟨#[]⟩) = x →
    (Calls Tryz.prog 19 #[.string s, .int .i64 size, E wrong] w fun e w' => e = .returned (.tuple #[.string x, ev]) ∧ Below w.heap.size w w') → Calls Tryz.prog 19 #[.string s, .int .i64 size, E wrong] w fun e w' => e = .returned (.tuple #[.string (if (if c3 ≠ 0 then c3 else if r1 = algoB ∧ r2.size = size then 0 else wrong) = 0 then r2 else ⟨#[]⟩), evV E (if c3 ≠ 0 then c3 else if r1 = algoB ∧ r2.size = size then 0 else wrong)]) ∧ Below w.heap.size w w' := fun ev x h1 h2 h => by rw [h1, h2]; exact h
  by_cases h3 : c3 = 0
  · subst h3
    rw [evV_zero] at HEN
    by_cases hq : r1 = algoB ∧ r2.size = size
    · refine fin .nilIface r2 (by rw [if_neg (by simp), if_pos hq]; rfl) (by simp [hq]) ?_
      obtain ⟨rfl, rfl⟩ := hq
      have k0 := algo_list
      rw [hav]
      clear fin hav hEi hw
      go_enter Tryz.func19, Tryz.ntmps19
      have tok := True.intro
      go_wp2_with (first
        | (go_at_call 25; refine (Of_any _ s).mono ?_; rintro e w1 ⟨rfl, h1, hb1⟩; skip; have H1 := Lib.hid (show IsIn w1 w.heap.size s (evV E 0) from h1); have HB1 := Lib.hid hb1; have HE1 := Lib.hid (HE.out.below hb1); clear h1 hb1)
        | (go_at_call 31; have _t := tok; refine (HT1.out _ _ HE1.out HG.out H1.out).mono ?_; rintro e w2 ⟨rfl, h2, hg2⟩; skip; have H2 := Lib.hid h2; have HE2 := Lib.hid (HE1.out.keep hg2 HG.out); have HB2 := Lib.hid (HB1.out.grown hg2 HB1.out.size (fun k hk => by cases hk; exact Nat.le_refl _)); have tok2 := True.intro; clear h2 hg2 _t tok)
        | (go_at_call 31; have _t := tok2; refine (HT2.out _ _ HE2.out HG.out H2.out).mono ?_; rintro e w3 ⟨rfl, h3, hg3⟩; skip; have H3 := Lib.hid h3; have HE3 := Lib.hid (HE2.out.keep hg3 HG.out); have HB3 := Lib.hid (HB2.out.grown hg3 HB2.out.size (fun k hk => by cases hk; exact Nat.le_refl _)); clear h3 hg3 _t tok2)
        | (go_at_call 35; refine (HEN.out _ _ HE3.out HG.out H3.out).mono ?_; rintro e w4 ⟨rfl, hg4⟩; skip; have HB4 := Lib.hid (HB3.out.grown hg4 HB3.out.size (fun k hk => by cases hk; exact Nat.le_refl _)); clear hg4))
      go_ret2
      exact ⟨rfl, HB4.out⟩
    · refine fin (E wrong) ⟨#[]⟩ (by rw [if_neg (by simp), if_neg hq]; exact evV_pos E hw) (by simp [hq, hw]) ?_
      rw [hav]
      clear fin hav hEi hw
      by_cases h1 : r1 = algoB
      · subst h1
        have k0 := algo_list
        have h2 : ((r2.size : Int) == (size : Int)) = false := by
          rw [beq_eq_false_iff_ne]; intro e; exact hq ⟨rfl, by omega⟩
        have h2' : ¬ (r2.size : Int) = (size : Int) := by simpa using h2
        have h2n : ¬ r2.size = size := by omega
        clear hq
        go_enter Tryz.func19, Tryz.ntmps19
        have tok := True.intro
        go_wp2_with (first
          | (go_at_call 25; refine (Of_any _ s).mono ?_; rintro e w1 ⟨rfl, h1, hb1⟩; skip; have H1 := Lib.hid (show IsIn w1 w.heap.size s (evV E 0) from h1); have HB1 := Lib.hid hb1; have HE1 := Lib.hid (HE.out.below hb1); clear h1 hb1)
          | (go_at_call 31; have _t := tok; refine (HT1.out _ _ HE1.out HG.out H1.out).mono ?_; rintro e w2 ⟨rfl, h2, hg2⟩; skip; have H2 := Lib.hid h2; have HE2 := Lib.hid (HE1.out.keep hg2 HG.out); have HB2 := Lib.hid (HB1.out.grown hg2 HB1.out.size (fun k hk => by cases hk; exact Nat.le_refl _)); have tok2 := True.intro; clear h2 hg2 _t tok)
          | (go_at_call 31; have _t := tok2; refine (HT2.out _ _ HE2.out HG.out H2.out).mono ?_; rintro e w3 ⟨rfl, h3, hg3⟩; skip; have H3 := Lib.hid h3; have HE3 := Lib.hid (HE2.out.keep hg3 HG.out); have HB3 := Lib.hid (HB2.out.grown hg3 HB2.out.size (fun k hk => by cases hk; exact Nat.le_refl _)); clear h3 hg3 _t tok2)
          | (go_at_call 35; refine (HEN.out _ _ HE3.out HG.out H3.out).mono ?_; rintro e w4 ⟨rfl, hg4⟩; skip; have HB4 := Lib.hid (HB3.out.grown hg4 HB3.out.size (fun k hk => by cases hk; exact Nat.le_refl _)); clear hg4))
        go_ret2
        exact ⟨rfl, HB4.out⟩
      · have h2 : (r1.toList == [115, 115, 104, 45, 101, 100, 50, 53, 53, 49, 57]) = false := by
          rw [beq_eq_false_iff_ne, ← algo_list, ByteArray.toList_eq, ByteArray.toList_eq]
          intro e
          exact h1 (by apply ByteArray.ext; apply Array.toList_inj.1; exact e)
        have h2' : ¬ r1.toList = [115, 115, 104, 45, 101, 100, 50, 53, 53, 49, 57] := by simpa using h2
        clear hq h1
        go_enter Tryz.func19, Tryz.ntmps19
        have tok := True.intro
        go_wp2_with (first
          | (go_at_call 25; refine (Of_any _ s).mono ?_; rintro e w1 ⟨rfl, h1, hb1⟩; skip; have H1 := Lib.hid (show IsIn w1 w.heap.size s (evV E 0) from h1); have HB1 := Lib.hid hb1; have HE1 := Lib.hid (HE.out.below hb1); clear h1 hb1)
          | (go_at_call 31; have _t := tok; refine (HT1.out _ _ HE1.out HG.out H1.out).mono ?_; rintro e w2 ⟨rfl, h2, hg2⟩; skip; have H2 := Lib.hid h2; have HE2 := Lib.hid (HE1.out.keep hg2 HG.out); have HB2 := Lib.hid (HB1.out.grown hg2 HB1.out.size (fun k hk => by cases hk; exact Nat.le_refl _)); have tok2 := True.intro; clear h2 hg2 _t tok)
          | (go_at_call 31; have _t := tok2; refine (HT2.out _ _ HE2.out HG.out H2.out).mono ?_; rintro e w3 ⟨rfl, h3, hg3⟩; skip; have H3 := Lib.hid h3; have HE3 := Lib.hid (HE2.out.keep hg3 HG.out); have HB3 := Lib.hid (HB2.out.grown hg3 HB2.out.size (fun k hk => by cases hk; exact Nat.le_refl _)); clear h3 hg3 _t tok2)
          | (go_at_call 35; refine (HEN.out _ _ HE3.out HG.out H3.out).mono ?_; rintro e w4 ⟨rfl, hg4⟩; skip; have HB4 := Lib.hid (HB3.out.grown hg4 HB3.out.size (fun k hk => by cases hk; exact Nat.le_refl _)); clear hg4))
        go_ret2
        exact ⟨rfl, HB4.out⟩
  · obtain ⟨bv, hbv⟩ := hEi c3 h3
    have hev : evV E c3 = E c3 := evV_pos E h3
    refine fin (E c3) ⟨#[]⟩ (by rw [if_pos h3]; exact hev) (by rw [if_pos h3, if_neg h3]) ?_
    rw [hav, hbv]
    rw [hev, hbv] at HEN
    clear fin hav hbv hev hEi hw h3
    go_enter Tryz.func19, Tryz.ntmps19
    have tok := True.intro
    go_wp2_with (first
      | (go_at_call 25; refine (Of_any _ s).mono ?_; rintro e w1 ⟨rfl, h1, hb1⟩; skip; have H1 := Lib.hid (show IsIn w1 w.heap.size s (evV E 0) from h1); have HB1 := Lib.hid hb1; have HE1 := Lib.hid (HE.out.below hb1); clear h1 hb1)
      | (go_at_call 31; have _t := tok; refine (HT1.out _ _ HE1.out HG.out H1.out).mono ?_; rintro e w2 ⟨rfl, h2, hg2⟩; skip; have H2 := Lib.hid h2; have HE2 := Lib.hid (HE1.out.keep hg2 HG.out); have HB2 := Lib.hid (HB1.out.grown hg2 HB1.out.size (fun k hk => by cases hk; exact Nat.le_refl _)); have tok2 := True.intro; clear h2 hg2 _t tok)
      | (go_at_call 31; have _t := tok2; refine (HT2.out _ _ HE2.out HG.out H2.out).mono ?_; rintro e w3 ⟨rfl, h3, hg3⟩; skip; have H3 := Lib.hid h3; have HE3 := Lib.hid (HE2.out.keep hg3 HG.out); have HB3 := Lib.hid (HB2.out.grown hg3 HB2.out.size (fun k hk => by cases hk; exact Nat.le_refl _)); clear h3 hg3 _t tok2)
      | (go_at_call 35; refine (HEN.out _ _ HE3.out HG.out H3.out).mono ?_; rintro e w4 ⟨rfl, hg4⟩; skip; have HB4 := Lib.hid (HB3.out.grown hg4 HB3.out.size (fun k hk => by cases hk; exact Nat.le_refl _)); clear hg4))
    go_ret2
    exact ⟨rfl, HB4.out⟩
end Go.Proofs.YtjfikbnfabdkoaaGreatDoor.Bl
