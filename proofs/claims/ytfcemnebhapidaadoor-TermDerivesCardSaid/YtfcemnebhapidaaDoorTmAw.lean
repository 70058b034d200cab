/- The fixed facts of layer 31's laws. -/
import Derived.Test.YtfcemnebhapidaaDoorTmKs
set_option linter.unusedVariables false
set_option linter.unusedSimpArgs false
namespace Go.Proofs.YtfcemnebhapidaaDoor.Te
open Go.RowKit Go.Proofs.YtfcemnebhapidaaDoor.Ow Go.Proofs.YtfcemnebhapidaaDoor.Mp Go.Maps
def T1 : Tm := .two 6 (.atom [107]) (.atom [109])
def T2 : Tm := .one 0 (.atom [107])
def Tm_ : Tm := .atom [109]
def T3 : Tm := .two 3 (.atom [120]) (.atom [107])
def T4 : Tm := .one 1 (.atom [121])
def T5 : Tm := .two 4 (.atom [120]) (.atom [121])
def Ty : Tm := .atom [121]
def Ta : Tm := .atom [97]
theorem par0 : parse [115, 101, 97, 108, 40, 107, 44, 109, 41] = some T1 := by rfl
theorem par1 : parse [104, 97, 115, 104, 40, 107, 41] = some T2 := by rfl
theorem par2 : parse [109] = some Tm_ := by rfl
theorem par3 : parse [112, 97, 105, 114, 40, 120, 44, 107, 41] = some T3 := by rfl
theorem par4 : parse [112, 111, 105, 110, 116, 40, 121, 41] = some T4 := by rfl
theorem par5 : parse [115, 104, 97, 114, 101, 40, 121, 44, 120, 41] = some T5 := by rfl
theorem par6 : parse [115, 104, 97, 114, 101, 40, 120, 44, 121, 41] = some T5 := by rfl
theorem par7 : parse [121] = some Ty := by rfl
theorem par8 : parse [97] = some Ta := by rfl
theorem T1_wf : T1.wf := (parse_iff.1 par0).wf
theorem T1_len : T1.txt.length ≤ 900 := by decide
theorem T2_wf : T2.wf := (parse_iff.1 par1).wf
theorem T2_len : T2.txt.length ≤ 900 := by decide
theorem T3_wf : T3.wf := (parse_iff.1 par3).wf
theorem T3_len : T3.txt.length ≤ 900 := by decide
theorem T4_wf : T4.wf := (parse_iff.1 par4).wf
theorem T4_len : T4.txt.length ≤ 900 := by decide
theorem T5_wf : T5.wf := (parse_iff.1 par5).wf
theorem T5_len : T5.txt.length ≤ 900 := by decide
theorem Ta_wf : Ta.wf := (parse_iff.1 par8).wf
theorem Ta_len : Ta.txt.length ≤ 900 := by decide
theorem Tm__wf : Tm_.wf := (parse_iff.1 par2).wf
theorem Tm__len : Tm_.txt.length ≤ 900 := by decide
theorem Ty_wf : Ty.wf := (parse_iff.1 par7).wf
theorem Ty_len : Ty.txt.length ≤ 900 := by decide
theorem der1 : derB ([] ++ [T1] ++ [T2]) Tm_ = false := not_der [T1, T2] (by decide) (by decide) (by decide)
theorem der2 : derB ([] ++ [T1] ++ [T2] ++ [T3] ++ [T4]) Tm_ = true := is_der (.opn (a := (.atom [107])) (.base (by decide)) (.snd (a := (.atom [120])) (.base (by decide))))
theorem der3 : derB ([] ++ [T1] ++ [T2] ++ [T3] ++ [T4]) T5 = true := is_der (.shl (.fst (b := (.atom [107])) (.base (by decide))) (.base (by decide)))
theorem der4 : derB ([] ++ [T1] ++ [T2] ++ [T3] ++ [T4]) Ty = false := not_der [T1, T2, T3, T4, (.atom [120]), (.atom [107]), (.atom [109])] (by decide) (by decide) (by decide)
theorem hsame : ((strB T5.txt).toList == (strB T5.txt).toList) = true := by rw [strB_beq]; exact beq_self_eq_true _
theorem hkind : ((strB Ta.knd).toList == [97, 116, 111, 109]) = true := by rw [strB_toList]; rfl
set_option maxRecDepth 20000 in
set_option maxHeartbeats 4000000 in
theorem awake31 (w : World) (a : Nat → Addr) (hE : ErrsT w a) : Calls Tryd.prog 9 #[] w fun e w' => e = .returned (.bool true) ∧ Below w.heap.size w w' := by
  have HO0 := Lib.hid (show ∀ W, Below w.heap.size w W → Calls Tryd.prog 13 #[.string ⟨#[115, 101, 97, 108, 40, 107, 44, 109, 41]⟩] W fun e w' => ∃ A c, e = .returned (.agg (tv T1 (.slice A T1.prt.length c))) ∧ FT W.heap.size w' T1 (.slice A T1.prt.length c) ∧ Below W.heap.size W w' from fun W hW => Of_some W [115, 101, 97, 108, 40, 107, 44, 109, 41] T1 (by decide) par0 a (hE.below hW))
  have HO1 := Lib.hid (show ∀ W, Below w.heap.size w W → Calls Tryd.prog 13 #[.string ⟨#[104, 97, 115, 104, 40, 107, 41]⟩] W fun e w' => ∃ A c, e = .returned (.agg (tv T2 (.slice A T2.prt.length c))) ∧ FT W.heap.size w' T2 (.slice A T2.prt.length c) ∧ Below W.heap.size W w' from fun W hW => Of_some W [104, 97, 115, 104, 40, 107, 41] T2 (by decide) par1 a (hE.below hW))
  have HO2 := Lib.hid (show ∀ W, Below w.heap.size w W → Calls Tryd.prog 13 #[.string ⟨#[109]⟩] W fun e w' => ∃ A c, e = .returned (.agg (tv Tm_ (.slice A Tm_.prt.length c))) ∧ FT W.heap.size w' Tm_ (.slice A Tm_.prt.length c) ∧ Below W.heap.size W w' from fun W hW => Of_some W [109] Tm_ (by decide) par2 a (hE.below hW))
  have HO3 := Lib.hid (show ∀ W, Below w.heap.size w W → Calls Tryd.prog 13 #[.string ⟨#[112, 97, 105, 114, 40, 120, 44, 107, 41]⟩] W fun e w' => ∃ A c, e = .returned (.agg (tv T3 (.slice A T3.prt.length c))) ∧ FT W.heap.size w' T3 (.slice A T3.prt.length c) ∧ Below W.heap.size W w' from fun W hW => Of_some W [112, 97, 105, 114, 40, 120, 44, 107, 41] T3 (by decide) par3 a (hE.below hW))
  have HO4 := Lib.hid (show ∀ W, Below w.heap.size w W → Calls Tryd.prog 13 #[.string ⟨#[112, 111, 105, 110, 116, 40, 121, 41]⟩] W fun e w' => ∃ A c, e = .returned (.agg (tv T4 (.slice A T4.prt.length c))) ∧ FT W.heap.size w' T4 (.slice A T4.prt.length c) ∧ Below W.heap.size W w' from fun W hW => Of_some W [112, 111, 105, 110, 116, 40, 121, 41] T4 (by decide) par4 a (hE.below hW))
  have HO5 := Lib.hid (show ∀ W, Below w.heap.size w W → Calls Tryd.prog 13 #[.string ⟨#[115, 104, 97, 114, 101, 40, 121, 44, 120, 41]⟩] W fun e w' => ∃ A c, e = .returned (.agg (tv T5 (.slice A T5.prt.length c))) ∧ FT W.heap.size w' T5 (.slice A T5.prt.length c) ∧ Below W.heap.size W w' from fun W hW => Of_some W [115, 104, 97, 114, 101, 40, 121, 44, 120, 41] T5 (by decide) par5 a (hE.below hW))
  have HO6 := Lib.hid (show ∀ W, Below w.heap.size w W → Calls Tryd.prog 13 #[.string ⟨#[115, 104, 97, 114, 101, 40, 120, 44, 121, 41]⟩] W fun e w' => ∃ A c, e = .returned (.agg (tv T5 (.slice A T5.prt.length c))) ∧ FT W.heap.size w' T5 (.slice A T5.prt.length c) ∧ Below W.heap.size W w' from fun W hW => Of_some W [115, 104, 97, 114, 101, 40, 120, 44, 121, 41] T5 (by decide) par6 a (hE.below hW))
  have HO7 := Lib.hid (show ∀ W, Below w.heap.size w W → Calls Tryd.prog 13 #[.string ⟨#[121]⟩] W fun e w' => ∃ A c, e = .returned (.agg (tv Ty (.slice A Ty.prt.length c))) ∧ FT W.heap.size w' Ty (.slice A Ty.prt.length c) ∧ Below W.heap.size W w' from fun W hW => Of_some W [121] Ty (by decide) par7 a (hE.below hW))
  have HO8 := Lib.hid (show ∀ W, Below w.heap.size w W → Calls Tryd.prog 13 #[.string ⟨#[97]⟩] W fun e w' => ∃ A c, e = .returned (.agg (tv Ta (.slice A Ta.prt.length c))) ∧ FT W.heap.size w' Ta (.slice A Ta.prt.length c) ∧ Below W.heap.size W w' from fun W hW => Of_some W [97] Ta (by decide) par8 a (hE.below hW))
  clear hE
  have hk := hkind
  have tok1 := True.intro
  go_enter Tryd.func9, Tryd.ntmps9
  go_wp2_with (first
    | (go_at_call 23; have _t := tok1; refine (New_KS w _ (Below.refl _ _)).mono ?_; rintro e w1 ⟨kb, mb, rfl, h1, h2, h3, h4⟩; skip; have KS0 := Lib.hid h1; clear h1 h2 h3 h4; have tok2 := True.intro; clear _t tok1)
    | (go_at_call 13; have _t := tok2; refine (HO0.out _ KS0.out.bel).mono ?_; rintro e w2 ⟨A2, c2, rfl, hf, hb⟩; skip; have HT2 := Lib.hid hf.tp; have KS1 := Lib.hid (KS0.out.below hb); clear hf hb; have tok3 := True.intro; clear _t tok2)
    | (go_at_call 16; have _t := tok3; refine (Learn_KS w _ kb mb _ T1 _ KS1.out T1_wf T1_len HT2.out (by decide)).mono ?_; rintro e w3 ⟨rfl, h1, h2⟩; skip; have KS2 := Lib.hid h1; clear h1 h2; have tok4 := True.intro; clear _t tok3)
    | (go_at_call 13; have _t := tok4; refine (HO1.out _ KS2.out.bel).mono ?_; rintro e w4 ⟨A4, c4, rfl, hf, hb⟩; skip; have HT4 := Lib.hid hf.tp; have KS3 := Lib.hid (KS2.out.below hb); clear hf hb; have tok5 := True.intro; clear _t tok4)
    | (go_at_call 16; have _t := tok5; refine (Learn_KS w _ kb mb _ T2 _ KS3.out T2_wf T2_len HT4.out (by decide)).mono ?_; rintro e w5 ⟨rfl, h1, h2⟩; skip; have KS4 := Lib.hid h1; clear h1 h2; have tok6 := True.intro; clear _t tok5)
    | (go_at_call 13; have _t := tok6; refine (HO2.out _ KS4.out.bel).mono ?_; rintro e w6 ⟨A6, c6, rfl, hf, hb⟩; skip; have HT6 := Lib.hid hf.tp; have KS5 := Lib.hid (KS4.out.below hb); clear hf hb; have tok7 := True.intro; clear _t tok6)
    | (go_at_call 15; have _t := tok7; refine (Derives_KS w _ kb mb _ Tm_ _ KS5.out Tm__wf (Nat.le_trans Tm__len (by decide)) HT6.out).mono ?_; rintro e w7 ⟨rfl, hb⟩; rw [der1]; skip; have KS6 := Lib.hid (KS5.out.below hb); clear hb; have tok8 := True.intro; clear _t tok7)
    | (go_at_call 13; have _t := tok8; refine (HO3.out _ KS6.out.bel).mono ?_; rintro e w8 ⟨A8, c8, rfl, hf, hb⟩; skip; have HT8 := Lib.hid hf.tp; have KS7 := Lib.hid (KS6.out.below hb); clear hf hb; have tok9 := True.intro; clear _t tok8)
    | (go_at_call 16; have _t := tok9; refine (Learn_KS w _ kb mb _ T3 _ KS7.out T3_wf T3_len HT8.out (by decide)).mono ?_; rintro e w9 ⟨rfl, h1, h2⟩; skip; have KS8 := Lib.hid h1; clear h1 h2; have tok10 := True.intro; clear _t tok9)
    | (go_at_call 13; have _t := tok10; refine (HO4.out _ KS8.out.bel).mono ?_; rintro e w10 ⟨A10, c10, rfl, hf, hb⟩; skip; have HT10 := Lib.hid hf.tp; have KS9 := Lib.hid (KS8.out.below hb); clear hf hb; have tok11 := True.intro; clear _t tok10)
    | (go_at_call 16; have _t := tok11; refine (Learn_KS w _ kb mb _ T4 _ KS9.out T4_wf T4_len HT10.out (by decide)).mono ?_; rintro e w11 ⟨rfl, h1, h2⟩; skip; have KS10 := Lib.hid h1; clear h1 h2; have tok12 := True.intro; clear _t tok11)
    | (go_at_call 13; have _t := tok12; refine (HO2.out _ KS10.out.bel).mono ?_; rintro e w12 ⟨A12, c12, rfl, hf, hb⟩; skip; have HT12 := Lib.hid hf.tp; have KS11 := Lib.hid (KS10.out.below hb); clear hf hb; have tok13 := True.intro; clear _t tok12)
    | (go_at_call 15; have _t := tok13; refine (Derives_KS w _ kb mb _ Tm_ _ KS11.out Tm__wf (Nat.le_trans Tm__len (by decide)) HT12.out).mono ?_; rintro e w13 ⟨rfl, hb⟩; rw [der2]; skip; have KS12 := Lib.hid (KS11.out.below hb); clear hb; have tok14 := True.intro; clear _t tok13)
    | (go_at_call 13; have _t := tok14; refine (HO5.out _ KS12.out.bel).mono ?_; rintro e w14 ⟨A14, c14, rfl, hf, hb⟩; skip; have HT14 := Lib.hid hf.tp; have KS13 := Lib.hid (KS12.out.below hb); clear hf hb; have tok15 := True.intro; clear _t tok14)
    | (go_at_call 15; have _t := tok15; refine (Derives_KS w _ kb mb _ T5 _ KS13.out T5_wf (Nat.le_trans T5_len (by decide)) HT14.out).mono ?_; rintro e w15 ⟨rfl, hb⟩; rw [der3]; skip; have KS14 := Lib.hid (KS13.out.below hb); clear hb; have tok16 := True.intro; clear _t tok15)
    | (go_at_call 13; have _t := tok16; refine (HO7.out _ KS14.out.bel).mono ?_; rintro e w16 ⟨A16, c16, rfl, hf, hb⟩; skip; have HT16 := Lib.hid hf.tp; have KS15 := Lib.hid (KS14.out.below hb); clear hf hb; have tok17 := True.intro; clear _t tok16)
    | (go_at_call 15; have _t := tok17; refine (Derives_KS w _ kb mb _ Ty _ KS15.out Ty_wf (Nat.le_trans Ty_len (by decide)) HT16.out).mono ?_; rintro e w17 ⟨rfl, hb⟩; rw [der4]; skip; have KS16 := Lib.hid (KS15.out.below hb); clear hb; have tok18 := True.intro; clear _t tok17)
    | (go_at_call 13; have _t := tok18; refine (HO5.out _ KS16.out.bel).mono ?_; rintro e w18 ⟨A18, c18, rfl, hf, hb⟩; skip; have HT18 := Lib.hid hf.tp; have KS17 := Lib.hid (KS16.out.below hb); clear hf hb; have tok19 := True.intro; clear _t tok18)
    | (go_at_call 13; have _t := tok19; refine (HO6.out _ KS17.out.bel).mono ?_; rintro e w19 ⟨A19, c19, rfl, hf, hb⟩; skip; have HT19 := Lib.hid hf.tp; have KS18 := Lib.hid (KS17.out.below hb); clear hf hb; have tok20 := True.intro; clear _t tok19)
    | (go_at_call 28; have _t := tok20; refine (Same_any _ _ _ _ _ _ _ _ _ _ _).mono ?_; rintro e w20 ⟨rfl, hb⟩; rw [hsame]; skip; have KS19 := Lib.hid (KS18.out.below hb); clear hb; have tok21 := True.intro; clear _t tok20)
    | (go_at_call 13; have _t := tok21; refine (HO8.out _ KS19.out.bel).mono ?_; rintro e w21 ⟨A21, c21, rfl, hf, hb⟩; skip; have HT21 := Lib.hid hf.tp; have KS20 := Lib.hid (KS19.out.below hb); clear hf hb; have tok22 := True.intro; clear _t tok21)
    | (go_at_call 26; have _t := tok22; refine (Kind_any _ _ _ _ _ _).mono ?_; rintro e w22 ⟨rfl, hb⟩; skip; have KS21 := Lib.hid (KS20.out.below hb); clear hb; have tok23 := True.intro; clear _t tok22))
  go_ret
  exact ⟨rfl, KS21.out.bel⟩
end Go.Proofs.YtfcemnebhapidaaDoor.Te
