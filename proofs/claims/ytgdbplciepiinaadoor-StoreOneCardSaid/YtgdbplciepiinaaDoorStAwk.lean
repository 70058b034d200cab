/- The fixed fact of layer 16's laws; the law StoreNames. -/
import Derived.Test.YtgdbplciepiinaaDoorStAdd
import Derived.Test.YtgdbplciepiinaaDoorStTen
set_option linter.unusedVariables false
set_option linter.unusedSimpArgs false
namespace Go.Proofs.YtgdbplciepiinaaDoor.St
open Go.RowKit Go.Proofs.YtgdbplciepiinaaDoor.Ow Go.Proofs.YtgdbplciepiinaaDoor.Mp Go.Maps Go.Proofs
@[irreducible] def one32 : List UInt8 := 1 :: List.replicate 31 0
theorem one_len : one32.length = 32 := by unfold one32; rfl
theorem one_eq : (#[.int .u8 1, .int .u8 0, .int .u8 0, .int .u8 0, .int .u8 0, .int .u8 0, .int .u8 0, .int .u8 0, .int .u8 0, .int .u8 0, .int .u8 0, .int .u8 0, .int .u8 0, .int .u8 0, .int .u8 0, .int .u8 0, .int .u8 0, .int .u8 0, .int .u8 0, .int .u8 0, .int .u8 0, .int .u8 0, .int .u8 0, .int .u8 0, .int .u8 0, .int .u8 0, .int .u8 0, .int .u8 0, .int .u8 0, .int .u8 0, .int .u8 0, .int .u8 0] : Array Value) = Cv.bytesV one32 := by unfold Cv.bytesV one32; rfl
theorem upd_below {B : Nat} {w W W' : World} {s : List Nat} (hb : Below B w W) (hu : Sp.Upd W W' s) (hs : ∀ x ∈ s, B ≤ x) (hB : B ≤ W.heap.size) : Below B w W' :=
  ⟨hu.os.trans hb.os, hu.tape.trans hb.tape, hu.output.trans hb.output, Nat.le_trans hb.size hu.size, fun k hk => (hu.block k (by have := hb.size; omega) (fun e => by have := hs k e; omega)).trans (hb.block k hk)⟩
def L1 : List Pr := [([116], one32)]
theorem L1_tens : (tens L1).length = 1 := rfl
theorem Cut16 (w : World) (s : ByteArray) (n : Nat) (hn : n ≤ 1000000) : Calls Tryd.prog 7 #[.string s, .int .i64 n] w fun e w' => e = .returned (.string (s.extract 0 n)) ∧ w = w' := by
  by_cases h : n < s.size
  · go_enter Tryd.func7, Tryd.ntmps7
    go_wp2
    go_ret
    exact ⟨by simp, rfl⟩
  · have e : s.extract 0 n = s := by
      apply ByteArray.ext
      simp
      omega
    have h' : ¬ (n : Int) < s.size := by omega
    go_enter Tryd.func7, Tryd.ntmps7
    go_wp2
    go_ret
    exact ⟨rfl, rfl⟩
set_option maxRecDepth 20000 in
set_option maxHeartbeats 4000000 in
theorem awake16 (w : World) (a : Nat → Addr) (hE : Ei.ErrsAll w a) : Calls Tryd.prog 6 #[] w fun e w' => e = .returned (.bool true) ∧ Below w.heap.size w w' := by
  have HN := Lib.hid (show ∀ W, Calls Tryd.prog 10 #[.int .i64 4, .int .i64 4] W fun e w' => ∃ sb bo bw, e = .returned (.pointer (some ⟨sb, 0, none⟩)) ∧ IsSt w' sb bo bw 4 4 0 [] ∧ Below W.heap.size W w' ∧ W.heap.size ≤ sb ∧ W.heap.size ≤ bo ∧ W.heap.size ≤ bw from fun W => New_any W 4 4)
  have HA1 := Lib.hid (show ∀ W sb bo bw, IsSt W sb bo bw 4 4 0 [] → Calls Tryd.prog 18 #[.pointer (some ⟨sb, 0, none⟩), .string ⟨#[116]⟩, .agg #[.int .u8 1, .int .u8 0, .int .u8 0, .int .u8 0, .int .u8 0, .int .u8 0, .int .u8 0, .int .u8 0, .int .u8 0, .int .u8 0, .int .u8 0, .int .u8 0, .int .u8 0, .int .u8 0, .int .u8 0, .int .u8 0, .int .u8 0, .int .u8 0, .int .u8 0, .int .u8 0, .int .u8 0, .int .u8 0, .int .u8 0, .int .u8 0, .int .u8 0, .int .u8 0, .int .u8 0, .int .u8 0, .int .u8 0, .int .u8 0, .int .u8 0, .int .u8 0]] W fun e w' => e = .returned .nilIface ∧ IsSt w' sb bo bw 4 4 1 L1 ∧ Sp.Upd W w' [bo, bw] from fun W sb bo bw h => by
    rw [one_eq]
    exact Add_ok_false W sb bo bw 4 4 0 [] h ⟨#[116]⟩ (by decide) one32 one_len (by decide) rfl (by decide) (by decide) (by decide) (by decide) (by decide))
  have HA2 := Lib.hid (show ∀ W sb bo bw, Below w.heap.size w W → IsSt W sb bo bw 4 4 1 L1 → Calls Tryd.prog 18 #[.pointer (some ⟨sb, 0, none⟩), .string ⟨#[117]⟩, .agg #[.int .u8 1, .int .u8 0, .int .u8 0, .int .u8 0, .int .u8 0, .int .u8 0, .int .u8 0, .int .u8 0, .int .u8 0, .int .u8 0, .int .u8 0, .int .u8 0, .int .u8 0, .int .u8 0, .int .u8 0, .int .u8 0, .int .u8 0, .int .u8 0, .int .u8 0, .int .u8 0, .int .u8 0, .int .u8 0, .int .u8 0, .int .u8 0, .int .u8 0, .int .u8 0, .int .u8 0, .int .u8 0, .int .u8 0, .int .u8 0, .int .u8 0, .int .u8 0]] W fun e w' => e = .returned (.iface 119 (.pointer (some (a 9)))) ∧ Below W.heap.size W w' from fun W sb bo bw hW h => by
    rw [one_eq]
    exact Add_have W sb bo bw 4 4 1 L1 h ⟨#[117]⟩ (by decide) one32 one_len a (hE.below hW) (by decide) [116] (by unfold whoOf L1; simp))
  have HCD := Lib.hid (show ∀ W, Below w.heap.size w W → Calls Tryd.prog 16 #[.iface 119 (.pointer (some (a 9)))] W fun e w' => e = .returned (.int .i64 9) ∧ W = w' from fun W hW => Ei.Code_any W a (hE.below hW) 9 (by decide))
  have HLK := Lib.hid (show ∀ W sb bo bw, IsSt W sb bo bw 4 4 1 L1 → Calls Tryd.prog 13 #[.pointer (some ⟨sb, 0, none⟩), .agg #[.int .u8 1, .int .u8 0, .int .u8 0, .int .u8 0, .int .u8 0, .int .u8 0, .int .u8 0, .int .u8 0, .int .u8 0, .int .u8 0, .int .u8 0, .int .u8 0, .int .u8 0, .int .u8 0, .int .u8 0, .int .u8 0, .int .u8 0, .int .u8 0, .int .u8 0, .int .u8 0, .int .u8 0, .int .u8 0, .int .u8 0, .int .u8 0, .int .u8 0, .int .u8 0, .int .u8 0, .int .u8 0, .int .u8 0, .int .u8 0, .int .u8 0, .int .u8 0]] W fun e w' => e = .returned (.tuple #[.string ⟨#[116]⟩, .nilIface]) ∧ Below W.heap.size W w' from fun W sb bo bw h => by
    rw [one_eq]
    exact Lookup_some W sb bo bw 4 4 1 L1 h one32 one_len [116] (by unfold whoOf L1; simp))
  have HTN := Lib.hid (show ∀ W sb bo bw, IsSt W sb bo bw 4 4 1 L1 → Calls Tryd.prog 20 #[.pointer (some ⟨sb, 0, none⟩)] W fun e w' => ∃ A c, e = .returned (.slice A 1 c) ∧ Below W.heap.size W w' from fun W sb bo bw h => by
    refine (Tenants_any W sb bo bw 4 4 1 L1 h (by rw [L1_tens]; decide)).mono ?_
    rintro e w' ⟨v, rfl, ho, hb⟩
    obtain ⟨A, c, rfl, _⟩ := ho.form
    rw [List.length_map, namesL_length, L1_tens]
    exact ⟨A, c, rfl, hb⟩)
  have HV1 := Lib.hid (show ∀ W, Calls Tryd.prog 8 #[.string ⟨#[97, 45, 98]⟩] W fun e w' => e = .returned (.bool true) ∧ W = w' from fun W => Valid_any W ⟨#[97, 45, 98]⟩ (by decide))
  have HV2 := Lib.hid (show ∀ W, Calls Tryd.prog 8 #[.string ⟨#[45, 97]⟩] W fun e w' => e = .returned (.bool false) ∧ W = w' from fun W => Valid_any W ⟨#[45, 97]⟩ (by decide))
  clear hE
  have tok := True.intro
  go_enter Tryd.func6, Tryd.ntmps6
  go_wp2_with (first
    | (go_at_call 10; refine (HN.out _).mono ?_; rintro e w1 ⟨sb, bo, bw, rfl, h1, hb1, _, hbo, hbw⟩; skip; have H1 := Lib.hid h1; have HB1 := Lib.hid hb1; have HBO := Lib.hid hbo; have HBW := Lib.hid hbw; clear h1 hb1 hbo hbw)
    | (go_at_call 18; have _t := tok; refine (HA1.out _ _ _ _ H1.out).mono ?_; rintro e w2 ⟨rfl, h2, hu2⟩; skip; have H2 := Lib.hid h2; have HB2 := Lib.hid (upd_below HB1.out hu2 (by intro x hx; simp at hx; rcases hx with rfl | rfl; exact HBO.out; exact HBW.out) HB1.out.size); have tok2 := True.intro; clear h2 hu2 _t tok)
    | (go_at_call 18; have _t := tok2; refine (HA2.out _ _ _ _ HB2.out H2.out).mono ?_; rintro e w3 ⟨rfl, hb3⟩; skip; have H3 := Lib.hid (H2.out.below hb3); have HB3 := Lib.hid (HB2.out.trans (hb3.mono HB2.out.size)); clear hb3 _t tok2)
    | (go_at_call 16; refine (HCD.out _ HB3.out).mono ?_; rintro e w4 ⟨rfl, rfl⟩; skip)
    | (go_at_call 13; refine (HLK.out _ _ _ _ H3.out).mono ?_; rintro e w5 ⟨rfl, hb5⟩; skip; have H5 := Lib.hid (H3.out.below hb5); have HB5 := Lib.hid (HB3.out.trans (hb5.mono HB3.out.size)); clear hb5)
    | (go_at_call 20; refine (HTN.out _ _ _ _ H5.out).mono ?_; rintro e w6 ⟨A, c, rfl, hb6⟩; skip; have HB6 := Lib.hid (HB5.out.trans (hb6.mono HB5.out.size)); have tok3 := True.intro; clear hb6)
    | (go_at_call 8; have _t := tok3; refine (HV1.out _).mono ?_; rintro e w7 ⟨rfl, rfl⟩; skip; have tok4 := True.intro; clear _t tok3)
    | (go_at_call 8; have _t := tok4; refine (HV2.out _).mono ?_; rintro e w8 ⟨rfl, rfl⟩; skip; clear _t tok4))
  go_ret
  exact ⟨rfl, HB6.out⟩
theorem law_StoreNames (w : World) (s : ByteArray) (a : Nat → Addr) (hE : Ei.ErrsAll w a) : Calls Tryd.prog 3 #[.string s] w fun e w' => e = .returned (.bool true) ∧ Below w.heap.size w w' := by
  have HAW := Lib.hid (awake16 w a hE)
  obtain ⟨t, ht⟩ : ∃ t, s.extract 0 80 = t := ⟨_, rfl⟩
  have hts : t.size ≤ 80 := by rw [← ht, ByteArray.size_extract]; omega
  have HCT := Lib.hid (show ∀ W : World, Calls Tryd.prog 7 #[.string s, .int .i64 80] W fun e w' => e = .returned (.string t) ∧ W = w' from fun W => ht ▸ Cut16 W s 80 (by decide))
  obtain ⟨b, hb⟩ : ∃ b, validB t.data.toList = b := ⟨_, rfl⟩
  have HV := Lib.hid (show ∀ W : World, Calls Tryd.prog 8 #[.string t] W fun e w' => e = .returned (.bool b) ∧ W = w' from fun W => hb ▸ Valid_any W t (by omega))
  have HR := Lib.hid (show ∀ W : World, Calls Tryd.prog 9 #[.string t] W fun e w' => e = .returned (.bool b) ∧ W = w' from fun W => hb ▸ RefValid_any W t (by omega))
  clear hE ht hts hb
  go_enter Tryd.func3, Tryd.ntmps3
  go_wp2_with (first
    | (go_at_call 6; refine HAW.out.mono ?_; rintro e w1 ⟨rfl, hb1⟩; skip; have HB1 := Lib.hid hb1; clear hb1)
    | (go_at_call 7; refine (HCT.out _).mono ?_; rintro e w2 ⟨rfl, rfl⟩; skip)
    | (go_at_call 8; refine (HV.out _).mono ?_; rintro e w3 ⟨rfl, rfl⟩; skip)
    | (go_at_call 9; refine (HR.out _).mono ?_; rintro e w4 ⟨rfl, rfl⟩; skip))
  go_ret
  exact ⟨by simp, HB1.out⟩
end Go.Proofs.YtgdbplciepiinaaDoor.St
