/- The law WireWrites: the walk. -/
import Derived.Test.YtkpecnkflibmjaaDoorWireFew
set_option linter.unusedVariables false
set_option linter.unusedSimpArgs false
namespace Go.Proofs.YtkpecnkflibmjaaDoor.Wi
open Go.RowKit Go.Proofs.YtkpecnkflibmjaaDoor.Ow Go.Proofs.YtkpecnkflibmjaaDoor.Be Go.Proofs.YtkpecnkflibmjaaDoor.Cl Go.Proofs.YtkpecnkflibmjaaDoor.Cv
/-- a field of the argument -/
structure Fld where
  kind : Int
  n : Nat
  s : ByteArray
  a : Option Addr
  c : Nat
  xs : List ByteArray
/-- the slice address A reads as the fields fs -/
def RdF (w : World) (A : Option Addr) (fs : List Fld) : Prop := ∀ j f, fs[j]? = some f →
  (∃ b o, A = some ⟨b, o, none⟩ ∧ b < w.heap.size ∧ ∀ i v, (fieldC f.kind f.n f.s (.slice f.a f.xs.length f.c))[i]? = some v → w.cell? ⟨b, o + j * 4 + i, none⟩ = some v) ∧
  Rd w f.a (f.xs.map Value.string) ∧ f.xs.length ≤ f.c ∧ f.c ≤ maxLen ∧ f.n < 18446744073709551616
theorem bytes_append (a b : ByteArray) : (a ++ b).data.toList = a.data.toList ++ b.data.toList := by simp
set_option maxRecDepth 20000 in
set_option maxHeartbeats 4000000 in
theorem law_WireWrites (w : World) (A : Option Addr) (cp : Nat) (fs : List Fld) (hR : RdF w A fs) (hc : fs.length ≤ cp) (hm : cp ≤ maxLen) (E : Nat → Value) (hE : Errs w E) :
    Calls Tryd.prog 4 #[.slice A fs.length cp] w fun e w' => e = .returned (.bool true) ∧ Below w.heap.size w w' := by
  have HE := Lib.hid hE
  have HR := Lib.hid hR
  obtain ⟨n, hn⟩ : ∃ n, fs.length = n := ⟨_, rfl⟩
  have hnm : n ≤ 9223372036854775807 := by unfold maxLen at hm; omega
  rw [hn]
  have HN := Lib.hid hn
  clear hE hR hn hm hc
  go_enter Tryd.func4, Tryd.ntmps4
  go_wp2_with (first
    | (go_at_call 7; refine (awake_any _ E HE.out).mono ?_; rintro e w1 ⟨rfl, hb1⟩; skip; have HB1 := Lib.hid hb1; clear hb1))
  have HO0 := Lib.hid (outFresh w1)
  have HB0 := Lib.hid (show Below w1.heap.size w1 (w1.alloc (.cells #[.pointer none, .slice none 0 0] 31)) from (Below.refl _ _).alloc (Nat.le_refl _) _)
  go_loopw [4, 5] (fun v i wr => ∃ (k : Nat) (t : ByteArray), k ≤ n ∧ k ≤ 20 ∧ i = .int .i64 k ∧ v = .string t ∧ t.size ≤ 500 * k ∧ IsOut w1.heap.size w1.heap.size t.data.toList wr ∧ Below w1.heap.size w1 wr) (fun _ i _ => 30 - (intOf i).toNat)
  case atStart => exact ⟨0, ⟨#[]⟩, Nat.zero_le _, by decide, rfl, rfl, Nat.le_refl _, HO0.out, HB0.out⟩
  case round =>
    obtain ⟨k, t, hk, hk10, rfl, rfl, hts, hO, hb⟩ := hrel
    have HO := Lib.hid hO
    have HB := Lib.hid hb
    have hszb := hb.size
    have HWW := Lib.hid hszb
    have HWL := Lib.hid hO.lt
    have HBW := Lib.hid (HB1.out.trans (hb.mono HB1.out.size))
    clear hO hb HO0 HB0
    by_cases hgo : k < n ∧ k < 20
    case pos =>
      obtain ⟨hkn, hkt⟩ := hgo
      have hd1 : decide (k < n) = true := by simp; exact hkn
      have hd2 : decide ((k : Int) < 20) = true := by simp; omega
      obtain ⟨⟨b, o, rfl, hbl, hcell⟩, hrd, hxc, hcm, hnl⟩ := HR.out k _ (List.getElem?_eq_getElem (by rw [HN.out]; exact hkn))
      generalize fs[k]'(by rw [HN.out]; exact hkn) = fl at *
      obtain ⟨kind, N, s, a, c, xs⟩ := fl
      simp only at hcell hrd hxc hcm hnl
      have HCW := Lib.hid (show ∀ (i : Nat) (v : Value), (fieldC kind (N : Int) s (.slice a xs.length c))[i]? = some v → wr.cell? ⟨b, o + k * 4 + i, none⟩ = some v from fun i v h => (HBW.out.cell (p := ⟨b, o + k * 4 + i, none⟩) hbl).trans (hcell i v h))
      have HRW := Lib.hid (hrd.below HBW.out)
      have HC := Lib.hid hxc
      have HMX := Lib.hid hcm
      have HNL := Lib.hid hnl
      obtain ⟨s4, hs4⟩ : ∃ s4, s.extract 0 40 = s4 := ⟨_, rfl⟩
      have hs40 : s4.size ≤ 40 := by rw [← hs4, ByteArray.size_extract]; omega
      have HS4 := Lib.hid hs4
      have hik : (k : Int) < n := by omega
      clear hcell hrd hxc hcm hnl hs4 hbl
      by_cases hk0 : kind = 0
      · subst hk0
        obtain ⟨uc, huc⟩ : ∃ uc : UInt8, UInt8.ofNat N = uc := ⟨_, rfl⟩
        obtain ⟨m, hmm⟩ : ∃ m, uc.toNat = m := ⟨_, rfl⟩
        have hn1 : (N : Int) % 256 = (m : Int) := by rw [← hmm, ← huc, UInt8.toNat_ofNat']; omega
        have HMM := Lib.hid (show (m : Int) = (uc.toNat : Int) by rw [hmm])
        clear huc hmm
        obtain ⟨u, hu⟩ : ∃ u : ByteArray, (⟨[uc].toArray⟩ : ByteArray) = u := ⟨_, rfl⟩
        have HU := Lib.hid hu
        have HUD := Lib.hid (show (t ++ u).data.toList = t.data.toList ++ [uc] by rw [bytes_append]; congr 1; rw [← hu]; try rfl)
        have hus : u.size ≤ 500 := by rw [← hu]; exact (by decide : 1 ≤ 500)
        have hq : ¬ 9223372036854775807 < t.size + u.size := by omega
        clear hu
        have tok := True.intro
        go_wp2_with (first
          | (refine load_cells rfl 35 _ rfl b (o + k * 4) rfl (fieldC 0 N s (.slice a xs.length c)) _ HCW.out Tryd.underlying35 rfl (by kernel_rfl) ?_; skip)
          | (go_at_call 11; refine (few_any _ 0 N s a c xs HRW.out HC.out HMX.out).mono ?_; rintro e w2 ⟨A2, c2, ys, rfl, hy6, hyc, hy70, hRy, hb2⟩; skip; rw [HS4.out]
             have HB2 := Lib.hid hb2; have HRY := Lib.hid hRy; have HY6 := Lib.hid hy6; have HYC := Lib.hid hyc; have HY7 := Lib.hid hy70; clear hb2 hRy hy6 hyc hy70)
          | (have _t := tok
             refine Rg.store_fresh rfl 35 _ _ rfl (fieldC 0 N s4 (.slice A2 ys.length c2)) _ 35 rfl rfl (by kernel_rfl) rfl (by simp [fieldC, Value.oneCell']) ?_
             intro X hX hbX
             have hx0 : X.cell? ⟨w2.heap.size, 0, none⟩ = some (.int .i64 0) := hX.cell 0 rfl
             have hx1 : X.cell? ⟨w2.heap.size, 1, none⟩ = some (.int .u64 (N : Int)) := hX.cell 1 rfl
             have hx2 : X.cell? ⟨w2.heap.size, 2, none⟩ = some (.string s4) := hX.cell 2 rfl
             have hx3 : X.cell? ⟨w2.heap.size, 3, none⟩ = some (.slice A2 ys.length c2) := hX.cell 3 rfl
             have HX := Lib.hid hX
             have HBX := Lib.hid (show Below wr.heap.size wr X from HB2.out.trans (hbX.mono HB2.out.size))
             have HOX := Lib.hid (HO.out.below HBX.out)
             have HSX := Lib.hid (Nat.le_of_lt (Nat.lt_of_lt_of_le HO.out.lt HBX.out.size))
             have HNE := Lib.hid (show w2.heap.size ≠ w1.heap.size by have := HO.out.lt; have := HB2.out.size; omega)
             have HRX := Lib.hid (HRY.out.below hbX)
             clear hX hbX _t tok; have tok2 := True.intro)
          | (have _t := tok2; go_at_call 12; refine (Byte_any w1.heap.size w1.heap.size t.data.toList uc _ HMM.out _ HOX.out (by rw [len_list]; omega) HSX.out).mono ?_; rintro e w4 ⟨rfl, h4, hb4⟩; skip
             have hX4 := hb4.kept _ _ _ _ HX.out (by decide) HNE.out
             have hy0 : w4.cell? ⟨w2.heap.size, 0, none⟩ = some (.int .i64 0) := Rg.Blk.cell (T := 35) hX4 0 rfl
             have hy1 : w4.cell? ⟨w2.heap.size, 1, none⟩ = some (.int .u64 (N : Int)) := Rg.Blk.cell (T := 35) hX4 1 rfl
             have hy2 : w4.cell? ⟨w2.heap.size, 2, none⟩ = some (.string s4) := Rg.Blk.cell (T := 35) hX4 2 rfl
             have hy3 : w4.cell? ⟨w2.heap.size, 3, none⟩ = some (.slice A2 ys.length c2) := Rg.Blk.cell (T := 35) hX4 3 rfl
             have H4 := Lib.hid h4; have HB4 := Lib.hid hb4; have HX4 := Lib.hid hX4; clear h4 hb4 hX4 hx0 hx1 hx2 hx3 _t tok2; have tok3 := True.intro)
          | (have _t := tok3; refine conv_string rfl 27 5 9 _ rfl Tryd.underlying27 Tryd.underlying5 Tryd.underlying9 w4.heap.size 0 1 1 [uc] rfl rfl (one_byte _ _ _ _ HMM.out) ?_
             rw [HU.out]
             have H5 := Lib.hid (show IsOut w1.heap.size w1.heap.size (t ++ u).data.toList ((w4.alloc (.cells #[.int .u8 (m : Int)] 5))) by rw [HUD.out]; exact H4.out.below (show Below w4.heap.size w4 (w4.alloc (.cells #[.int .u8 (m : Int)] 5)) from (Below.refl _ _).alloc (Nat.le_refl _) _))
             have HB5 := Lib.hid ((HB4.out.below.trans (((show Below w4.heap.size w4 (w4.alloc (.cells #[.int .u8 (m : Int)] 5)) from (Below.refl _ _).alloc (Nat.le_refl _) _)).mono (Nat.le_trans HSX.out HB4.out.size))))
             clear _t tok3))
        go_roundw
        case rel =>
          have hb' : Below w1.heap.size w1 _ := HB.out.trans ((HBX.out.mono HWW.out).trans HB5.out)
          first
            | exact ⟨k + 1, t ++ u, by omega, by omega, by go_num, rfl, by rw [ByteArray.size_append]; omega, H5.out, hb'⟩
            | ((repeat apply Exists.intro); refine ⟨?_, rfl⟩; exact ⟨k + 1, t ++ u, by omega, by omega, by go_num, rfl, by rw [ByteArray.size_append]; omega, H5.out, hb'⟩)
        case measure => simp [intOf]; omega
      by_cases hk1 : kind = 1 ∧ N % 2 = 1
      · obtain ⟨rfl, hp⟩ := hk1
        have hn0 : N % 2 = 1 := by omega
        have hn1 : (N : Int) % 2 = 1 := by omega
        obtain ⟨u, hu⟩ : ∃ u : ByteArray, (⟨[(1 : UInt8)].toArray⟩ : ByteArray) = u := ⟨_, rfl⟩
        have HU := Lib.hid hu
        have HUD := Lib.hid (show (t ++ u).data.toList = t.data.toList ++ [if true then 1 else 0] by rw [bytes_append]; congr 1; rw [← hu]; try rfl)
        have hus : u.size ≤ 500 := by rw [← hu]; exact (by decide : 1 ≤ 500)
        have hq : ¬ 9223372036854775807 < t.size + u.size := by omega
        clear hu
        have tok := True.intro
        go_wp2_with (first
          | (refine load_cells rfl 35 _ rfl b (o + k * 4) rfl (fieldC 1 N s (.slice a xs.length c)) _ HCW.out Tryd.underlying35 rfl (by kernel_rfl) ?_; skip)
          | (go_at_call 11; refine (few_any _ 1 N s a c xs HRW.out HC.out HMX.out).mono ?_; rintro e w2 ⟨A2, c2, ys, rfl, hy6, hyc, hy70, hRy, hb2⟩; skip; rw [HS4.out]
             have HB2 := Lib.hid hb2; have HRY := Lib.hid hRy; have HY6 := Lib.hid hy6; have HYC := Lib.hid hyc; have HY7 := Lib.hid hy70; clear hb2 hRy hy6 hyc hy70)
          | (have _t := tok
             refine Rg.store_fresh rfl 35 _ _ rfl (fieldC 1 N s4 (.slice A2 ys.length c2)) _ 35 rfl rfl (by kernel_rfl) rfl (by simp [fieldC, Value.oneCell']) ?_
             intro X hX hbX
             have hx0 : X.cell? ⟨w2.heap.size, 0, none⟩ = some (.int .i64 1) := hX.cell 0 rfl
             have hx1 : X.cell? ⟨w2.heap.size, 1, none⟩ = some (.int .u64 (N : Int)) := hX.cell 1 rfl
             have hx2 : X.cell? ⟨w2.heap.size, 2, none⟩ = some (.string s4) := hX.cell 2 rfl
             have hx3 : X.cell? ⟨w2.heap.size, 3, none⟩ = some (.slice A2 ys.length c2) := hX.cell 3 rfl
             have HX := Lib.hid hX
             have HBX := Lib.hid (show Below wr.heap.size wr X from HB2.out.trans (hbX.mono HB2.out.size))
             have HOX := Lib.hid (HO.out.below HBX.out)
             have HSX := Lib.hid (Nat.le_of_lt (Nat.lt_of_lt_of_le HO.out.lt HBX.out.size))
             have HNE := Lib.hid (show w2.heap.size ≠ w1.heap.size by have := HO.out.lt; have := HB2.out.size; omega)
             have HRX := Lib.hid (HRY.out.below hbX)
             clear hX hbX _t tok; have tok2 := True.intro)
          | (have _t := tok2; go_at_call 13; refine (Bool_any w1.heap.size w1.heap.size t.data.toList true _ HOX.out (by rw [len_list]; omega) HSX.out).mono ?_; rintro e w4 ⟨rfl, h4, hb4⟩; skip
             have hX4 := hb4.kept _ _ _ _ HX.out (by decide) HNE.out
             have hy0 : w4.cell? ⟨w2.heap.size, 0, none⟩ = some (.int .i64 1) := Rg.Blk.cell (T := 35) hX4 0 rfl
             have hy1 : w4.cell? ⟨w2.heap.size, 1, none⟩ = some (.int .u64 (N : Int)) := Rg.Blk.cell (T := 35) hX4 1 rfl
             have hy2 : w4.cell? ⟨w2.heap.size, 2, none⟩ = some (.string s4) := Rg.Blk.cell (T := 35) hX4 2 rfl
             have hy3 : w4.cell? ⟨w2.heap.size, 3, none⟩ = some (.slice A2 ys.length c2) := Rg.Blk.cell (T := 35) hX4 3 rfl
             have H4 := Lib.hid h4; have HB4 := Lib.hid hb4; have HX4 := Lib.hid hX4; clear h4 hb4 hX4 hx0 hx1 hx2 hx3 _t tok2; have tok3 := True.intro)
          | (have _t := tok3; refine conv_string rfl 27 5 9 _ rfl Tryd.underlying27 Tryd.underlying5 Tryd.underlying9 w4.heap.size 0 1 1 [(1 : UInt8)] rfl rfl (one_byte _ _ _ _ (by first | rfl | assumption | omega)) ?_
             rw [HU.out]
             have H5 := Lib.hid (show IsOut w1.heap.size w1.heap.size (t ++ u).data.toList ((w4.alloc (.cells #[.int .u8 1] 5))) by rw [HUD.out]; exact H4.out.below (show Below w4.heap.size w4 (w4.alloc (.cells #[.int .u8 1] 5)) from (Below.refl _ _).alloc (Nat.le_refl _) _))
             have HB5 := Lib.hid ((HB4.out.below.trans (((show Below w4.heap.size w4 (w4.alloc (.cells #[.int .u8 1] 5)) from (Below.refl _ _).alloc (Nat.le_refl _) _)).mono (Nat.le_trans HSX.out HB4.out.size))))
             clear _t tok3))
        go_roundw
        case rel =>
          have hb' : Below w1.heap.size w1 _ := HB.out.trans ((HBX.out.mono HWW.out).trans HB5.out)
          first
            | exact ⟨k + 1, t ++ u, by omega, by omega, by go_num, rfl, by rw [ByteArray.size_append]; omega, H5.out, hb'⟩
            | ((repeat apply Exists.intro); refine ⟨?_, rfl⟩; exact ⟨k + 1, t ++ u, by omega, by omega, by go_num, rfl, by rw [ByteArray.size_append]; omega, H5.out, hb'⟩)
        case measure => simp [intOf]; omega
      by_cases hk1 : kind = 1
      · subst hk1
        have hn0 : N % 2 = 0 := by omega
        have hn1 : (N : Int) % 2 = 0 := by omega
        obtain ⟨u, hu⟩ : ∃ u : ByteArray, (⟨[(0 : UInt8)].toArray⟩ : ByteArray) = u := ⟨_, rfl⟩
        have HU := Lib.hid hu
        have HUD := Lib.hid (show (t ++ u).data.toList = t.data.toList ++ [if false then 1 else 0] by rw [bytes_append]; congr 1; rw [← hu]; try rfl)
        have hus : u.size ≤ 500 := by rw [← hu]; exact (by decide : 1 ≤ 500)
        have hq : ¬ 9223372036854775807 < t.size + u.size := by omega
        clear hu
        have tok := True.intro
        go_wp2_with (first
          | (refine load_cells rfl 35 _ rfl b (o + k * 4) rfl (fieldC 1 N s (.slice a xs.length c)) _ HCW.out Tryd.underlying35 rfl (by kernel_rfl) ?_; skip)
          | (go_at_call 11; refine (few_any _ 1 N s a c xs HRW.out HC.out HMX.out).mono ?_; rintro e w2 ⟨A2, c2, ys, rfl, hy6, hyc, hy70, hRy, hb2⟩; skip; rw [HS4.out]
             have HB2 := Lib.hid hb2; have HRY := Lib.hid hRy; have HY6 := Lib.hid hy6; have HYC := Lib.hid hyc; have HY7 := Lib.hid hy70; clear hb2 hRy hy6 hyc hy70)
          | (have _t := tok
             refine Rg.store_fresh rfl 35 _ _ rfl (fieldC 1 N s4 (.slice A2 ys.length c2)) _ 35 rfl rfl (by kernel_rfl) rfl (by simp [fieldC, Value.oneCell']) ?_
             intro X hX hbX
             have hx0 : X.cell? ⟨w2.heap.size, 0, none⟩ = some (.int .i64 1) := hX.cell 0 rfl
             have hx1 : X.cell? ⟨w2.heap.size, 1, none⟩ = some (.int .u64 (N : Int)) := hX.cell 1 rfl
             have hx2 : X.cell? ⟨w2.heap.size, 2, none⟩ = some (.string s4) := hX.cell 2 rfl
             have hx3 : X.cell? ⟨w2.heap.size, 3, none⟩ = some (.slice A2 ys.length c2) := hX.cell 3 rfl
             have HX := Lib.hid hX
             have HBX := Lib.hid (show Below wr.heap.size wr X from HB2.out.trans (hbX.mono HB2.out.size))
             have HOX := Lib.hid (HO.out.below HBX.out)
             have HSX := Lib.hid (Nat.le_of_lt (Nat.lt_of_lt_of_le HO.out.lt HBX.out.size))
             have HNE := Lib.hid (show w2.heap.size ≠ w1.heap.size by have := HO.out.lt; have := HB2.out.size; omega)
             have HRX := Lib.hid (HRY.out.below hbX)
             clear hX hbX _t tok; have tok2 := True.intro)
          | (have _t := tok2; go_at_call 13; refine (Bool_any w1.heap.size w1.heap.size t.data.toList false _ HOX.out (by rw [len_list]; omega) HSX.out).mono ?_; rintro e w4 ⟨rfl, h4, hb4⟩; skip
             have hX4 := hb4.kept _ _ _ _ HX.out (by decide) HNE.out
             have hy0 : w4.cell? ⟨w2.heap.size, 0, none⟩ = some (.int .i64 1) := Rg.Blk.cell (T := 35) hX4 0 rfl
             have hy1 : w4.cell? ⟨w2.heap.size, 1, none⟩ = some (.int .u64 (N : Int)) := Rg.Blk.cell (T := 35) hX4 1 rfl
             have hy2 : w4.cell? ⟨w2.heap.size, 2, none⟩ = some (.string s4) := Rg.Blk.cell (T := 35) hX4 2 rfl
             have hy3 : w4.cell? ⟨w2.heap.size, 3, none⟩ = some (.slice A2 ys.length c2) := Rg.Blk.cell (T := 35) hX4 3 rfl
             have H4 := Lib.hid h4; have HB4 := Lib.hid hb4; have HX4 := Lib.hid hX4; clear h4 hb4 hX4 hx0 hx1 hx2 hx3 _t tok2; have tok3 := True.intro)
          | (have _t := tok3; refine conv_string rfl 27 5 9 _ rfl Tryd.underlying27 Tryd.underlying5 Tryd.underlying9 w4.heap.size 0 1 1 [(0 : UInt8)] rfl rfl (one_byte _ _ _ _ (by first | rfl | assumption | omega)) ?_
             rw [HU.out]
             have H5 := Lib.hid (show IsOut w1.heap.size w1.heap.size (t ++ u).data.toList ((w4.alloc (.cells #[.int .u8 0] 5))) by rw [HUD.out]; exact H4.out.below (show Below w4.heap.size w4 (w4.alloc (.cells #[.int .u8 0] 5)) from (Below.refl _ _).alloc (Nat.le_refl _) _))
             have HB5 := Lib.hid ((HB4.out.below.trans (((show Below w4.heap.size w4 (w4.alloc (.cells #[.int .u8 0] 5)) from (Below.refl _ _).alloc (Nat.le_refl _) _)).mono (Nat.le_trans HSX.out HB4.out.size))))
             clear _t tok3))
        go_roundw
        case rel =>
          have hb' : Below w1.heap.size w1 _ := HB.out.trans ((HBX.out.mono HWW.out).trans HB5.out)
          first
            | exact ⟨k + 1, t ++ u, by omega, by omega, by go_num, rfl, by rw [ByteArray.size_append]; omega, H5.out, hb'⟩
            | ((repeat apply Exists.intro); refine ⟨?_, rfl⟩; exact ⟨k + 1, t ++ u, by omega, by omega, by go_num, rfl, by rw [ByteArray.size_append]; omega, H5.out, hb'⟩)
        case measure => simp [intOf]; omega
      by_cases hk2 : kind = 2
      · subst hk2
        obtain ⟨m, hm'⟩ : ∃ m, N % 4294967296 = m := ⟨_, rfl⟩
        have hn1 : (N : Int) % 4294967296 = (m : Int) := by omega
        have HML := Lib.hid (show m < 4294967296 by omega)
        have HMB := Lib.hid (show be 4 m = be 4 N by rw [← hm']; exact be_mod 4 N)
        clear hm'
        obtain ⟨u, hu⟩ : ∃ u : ByteArray, mkS (be 4 N) = u := ⟨_, rfl⟩
        have HU := Lib.hid hu
        have HUD := Lib.hid (show (t ++ u).data.toList = t.data.toList ++ be 4 m by rw [bytes_append]; congr 1; rw [HMB.out, ← hu]; try rfl)
        have hus : u.size ≤ 500 := by rw [← hu]; rw [mkS_size, be_length]; decide
        have hq : ¬ 9223372036854775807 < t.size + u.size := by omega
        clear hu
        have tok := True.intro
        go_wp2_with (first
          | (refine load_cells rfl 35 _ rfl b (o + k * 4) rfl (fieldC 2 N s (.slice a xs.length c)) _ HCW.out Tryd.underlying35 rfl (by kernel_rfl) ?_; skip)
          | (go_at_call 11; refine (few_any _ 2 N s a c xs HRW.out HC.out HMX.out).mono ?_; rintro e w2 ⟨A2, c2, ys, rfl, hy6, hyc, hy70, hRy, hb2⟩; skip; rw [HS4.out]
             have HB2 := Lib.hid hb2; have HRY := Lib.hid hRy; have HY6 := Lib.hid hy6; have HYC := Lib.hid hyc; have HY7 := Lib.hid hy70; clear hb2 hRy hy6 hyc hy70)
          | (have _t := tok
             refine Rg.store_fresh rfl 35 _ _ rfl (fieldC 2 N s4 (.slice A2 ys.length c2)) _ 35 rfl rfl (by kernel_rfl) rfl (by simp [fieldC, Value.oneCell']) ?_
             intro X hX hbX
             have hx0 : X.cell? ⟨w2.heap.size, 0, none⟩ = some (.int .i64 2) := hX.cell 0 rfl
             have hx1 : X.cell? ⟨w2.heap.size, 1, none⟩ = some (.int .u64 (N : Int)) := hX.cell 1 rfl
             have hx2 : X.cell? ⟨w2.heap.size, 2, none⟩ = some (.string s4) := hX.cell 2 rfl
             have hx3 : X.cell? ⟨w2.heap.size, 3, none⟩ = some (.slice A2 ys.length c2) := hX.cell 3 rfl
             have HX := Lib.hid hX
             have HBX := Lib.hid (show Below wr.heap.size wr X from HB2.out.trans (hbX.mono HB2.out.size))
             have HOX := Lib.hid (HO.out.below HBX.out)
             have HSX := Lib.hid (Nat.le_of_lt (Nat.lt_of_lt_of_le HO.out.lt HBX.out.size))
             have HNE := Lib.hid (show w2.heap.size ≠ w1.heap.size by have := HO.out.lt; have := HB2.out.size; omega)
             have HRX := Lib.hid (HRY.out.below hbX)
             clear hX hbX _t tok; have tok2 := True.intro)
          | (have _t := tok2; go_at_call 14; refine (U32_any w1.heap.size w1.heap.size t.data.toList m HML.out _ HOX.out (by rw [len_list]; omega) HSX.out).mono ?_; rintro e w4 ⟨rfl, h4, hb4⟩; skip
             have hX4 := hb4.kept _ _ _ _ HX.out (by decide) HNE.out
             have hy0 : w4.cell? ⟨w2.heap.size, 0, none⟩ = some (.int .i64 2) := Rg.Blk.cell (T := 35) hX4 0 rfl
             have hy1 : w4.cell? ⟨w2.heap.size, 1, none⟩ = some (.int .u64 (N : Int)) := Rg.Blk.cell (T := 35) hX4 1 rfl
             have hy2 : w4.cell? ⟨w2.heap.size, 2, none⟩ = some (.string s4) := Rg.Blk.cell (T := 35) hX4 2 rfl
             have hy3 : w4.cell? ⟨w2.heap.size, 3, none⟩ = some (.slice A2 ys.length c2) := Rg.Blk.cell (T := 35) hX4 3 rfl
             have H4 := Lib.hid h4; have HB4 := Lib.hid hb4; have HX4 := Lib.hid hX4; clear h4 hb4 hX4 hx0 hx1 hx2 hx3 _t tok2; have tok3 := True.intro)
          | (have _t := tok3; go_at_call 15; refine (RefNum_any _ N 4 HNL.out (by decide)).mono ?_; rintro e w5 ⟨rfl, hb5⟩; skip
             rw [HU.out]; have HB55 := Lib.hid hb5; clear hb5
             have H5 := Lib.hid (show IsOut w1.heap.size w1.heap.size (t ++ u).data.toList (w5) by rw [HUD.out]; exact H4.out.below HB55.out)
             have HB5 := Lib.hid ((HB4.out.below.trans ((HB55.out).mono (Nat.le_trans HSX.out HB4.out.size))))
             clear _t tok3))
        go_roundw
        case rel =>
          have hb' : Below w1.heap.size w1 _ := HB.out.trans ((HBX.out.mono HWW.out).trans HB5.out)
          first
            | exact ⟨k + 1, t ++ u, by omega, by omega, by go_num, rfl, by rw [ByteArray.size_append]; omega, H5.out, hb'⟩
            | ((repeat apply Exists.intro); refine ⟨?_, rfl⟩; exact ⟨k + 1, t ++ u, by omega, by omega, by go_num, rfl, by rw [ByteArray.size_append]; omega, H5.out, hb'⟩)
        case measure => simp [intOf]; omega
      by_cases hk3 : kind = 3
      · subst hk3
        obtain ⟨u, hu⟩ : ∃ u : ByteArray, mkS (be 8 N) = u := ⟨_, rfl⟩
        have HU := Lib.hid hu
        have HUD := Lib.hid (show (t ++ u).data.toList = t.data.toList ++ be 8 N by rw [bytes_append]; congr 1; rw [← hu]; try rfl)
        have hus : u.size ≤ 500 := by rw [← hu]; rw [mkS_size, be_length]; decide
        have hq : ¬ 9223372036854775807 < t.size + u.size := by omega
        clear hu
        have tok := True.intro
        go_wp2_with (first
          | (refine load_cells rfl 35 _ rfl b (o + k * 4) rfl (fieldC 3 N s (.slice a xs.length c)) _ HCW.out Tryd.underlying35 rfl (by kernel_rfl) ?_; skip)
          | (go_at_call 11; refine (few_any _ 3 N s a c xs HRW.out HC.out HMX.out).mono ?_; rintro e w2 ⟨A2, c2, ys, rfl, hy6, hyc, hy70, hRy, hb2⟩; skip; rw [HS4.out]
             have HB2 := Lib.hid hb2; have HRY := Lib.hid hRy; have HY6 := Lib.hid hy6; have HYC := Lib.hid hyc; have HY7 := Lib.hid hy70; clear hb2 hRy hy6 hyc hy70)
          | (have _t := tok
             refine Rg.store_fresh rfl 35 _ _ rfl (fieldC 3 N s4 (.slice A2 ys.length c2)) _ 35 rfl rfl (by kernel_rfl) rfl (by simp [fieldC, Value.oneCell']) ?_
             intro X hX hbX
             have hx0 : X.cell? ⟨w2.heap.size, 0, none⟩ = some (.int .i64 3) := hX.cell 0 rfl
             have hx1 : X.cell? ⟨w2.heap.size, 1, none⟩ = some (.int .u64 (N : Int)) := hX.cell 1 rfl
             have hx2 : X.cell? ⟨w2.heap.size, 2, none⟩ = some (.string s4) := hX.cell 2 rfl
             have hx3 : X.cell? ⟨w2.heap.size, 3, none⟩ = some (.slice A2 ys.length c2) := hX.cell 3 rfl
             have HX := Lib.hid hX
             have HBX := Lib.hid (show Below wr.heap.size wr X from HB2.out.trans (hbX.mono HB2.out.size))
             have HOX := Lib.hid (HO.out.below HBX.out)
             have HSX := Lib.hid (Nat.le_of_lt (Nat.lt_of_lt_of_le HO.out.lt HBX.out.size))
             have HNE := Lib.hid (show w2.heap.size ≠ w1.heap.size by have := HO.out.lt; have := HB2.out.size; omega)
             have HRX := Lib.hid (HRY.out.below hbX)
             clear hX hbX _t tok; have tok2 := True.intro)
          | (have _t := tok2; go_at_call 16; refine (U64_any w1.heap.size w1.heap.size t.data.toList N HNL.out _ HOX.out (by rw [len_list]; omega) HSX.out).mono ?_; rintro e w4 ⟨rfl, h4, hb4⟩; skip
             have hX4 := hb4.kept _ _ _ _ HX.out (by decide) HNE.out
             have hy0 : w4.cell? ⟨w2.heap.size, 0, none⟩ = some (.int .i64 3) := Rg.Blk.cell (T := 35) hX4 0 rfl
             have hy1 : w4.cell? ⟨w2.heap.size, 1, none⟩ = some (.int .u64 (N : Int)) := Rg.Blk.cell (T := 35) hX4 1 rfl
             have hy2 : w4.cell? ⟨w2.heap.size, 2, none⟩ = some (.string s4) := Rg.Blk.cell (T := 35) hX4 2 rfl
             have hy3 : w4.cell? ⟨w2.heap.size, 3, none⟩ = some (.slice A2 ys.length c2) := Rg.Blk.cell (T := 35) hX4 3 rfl
             have H4 := Lib.hid h4; have HB4 := Lib.hid hb4; have HX4 := Lib.hid hX4; clear h4 hb4 hX4 hx0 hx1 hx2 hx3 _t tok2; have tok3 := True.intro)
          | (have _t := tok3; go_at_call 15; refine (RefNum_any _ N 8 HNL.out (by decide)).mono ?_; rintro e w5 ⟨rfl, hb5⟩; skip
             rw [HU.out]; have HB55 := Lib.hid hb5; clear hb5
             have H5 := Lib.hid (show IsOut w1.heap.size w1.heap.size (t ++ u).data.toList (w5) by rw [HUD.out]; exact H4.out.below HB55.out)
             have HB5 := Lib.hid ((HB4.out.below.trans ((HB55.out).mono (Nat.le_trans HSX.out HB4.out.size))))
             clear _t tok3))
        go_roundw
        case rel =>
          have hb' : Below w1.heap.size w1 _ := HB.out.trans ((HBX.out.mono HWW.out).trans HB5.out)
          first
            | exact ⟨k + 1, t ++ u, by omega, by omega, by go_num, rfl, by rw [ByteArray.size_append]; omega, H5.out, hb'⟩
            | ((repeat apply Exists.intro); refine ⟨?_, rfl⟩; exact ⟨k + 1, t ++ u, by omega, by omega, by go_num, rfl, by rw [ByteArray.size_append]; omega, H5.out, hb'⟩)
        case measure => simp [intOf]; omega
      by_cases hk4 : kind = 4
      · subst hk4
        have hq : ¬ 9223372036854775807 < t.size + s4.size := by omega
        have tok := True.intro
        go_wp2_with (first
          | (refine load_cells rfl 35 _ rfl b (o + k * 4) rfl (fieldC 4 N s (.slice a xs.length c)) _ HCW.out Tryd.underlying35 rfl (by kernel_rfl) ?_; skip)
          | (go_at_call 11; refine (few_any _ 4 N s a c xs HRW.out HC.out HMX.out).mono ?_; rintro e w2 ⟨A2, c2, ys, rfl, hy6, hyc, hy70, hRy, hb2⟩; skip; rw [HS4.out]
             have HB2 := Lib.hid hb2; have HRY := Lib.hid hRy; have HY6 := Lib.hid hy6; have HYC := Lib.hid hyc; have HY7 := Lib.hid hy70; clear hb2 hRy hy6 hyc hy70)
          | (have _t := tok
             refine Rg.store_fresh rfl 35 _ _ rfl (fieldC 4 N s4 (.slice A2 ys.length c2)) _ 35 rfl rfl (by kernel_rfl) rfl (by simp [fieldC, Value.oneCell']) ?_
             intro X hX hbX
             have hx0 : X.cell? ⟨w2.heap.size, 0, none⟩ = some (.int .i64 4) := hX.cell 0 rfl
             have hx1 : X.cell? ⟨w2.heap.size, 1, none⟩ = some (.int .u64 (N : Int)) := hX.cell 1 rfl
             have hx2 : X.cell? ⟨w2.heap.size, 2, none⟩ = some (.string s4) := hX.cell 2 rfl
             have hx3 : X.cell? ⟨w2.heap.size, 3, none⟩ = some (.slice A2 ys.length c2) := hX.cell 3 rfl
             have HX := Lib.hid hX
             have HBX := Lib.hid (show Below wr.heap.size wr X from HB2.out.trans (hbX.mono HB2.out.size))
             have HOX := Lib.hid (HO.out.below HBX.out)
             have HSX := Lib.hid (Nat.le_of_lt (Nat.lt_of_lt_of_le HO.out.lt HBX.out.size))
             have HNE := Lib.hid (show w2.heap.size ≠ w1.heap.size by have := HO.out.lt; have := HB2.out.size; omega)
             have HRX := Lib.hid (HRY.out.below hbX)
             clear hX hbX _t tok; have tok2 := True.intro)
          | (have _t := tok2; go_at_call 17; refine (Raw_any w1.heap.size w1.heap.size t.data.toList s4 _ HOX.out (by rw [len_list]; omega) HSX.out).mono ?_; rintro e w4 ⟨rfl, h4, hb4⟩; skip
             have hX4 := hb4.kept _ _ _ _ HX.out (by decide) HNE.out
             have hy0 : w4.cell? ⟨w2.heap.size, 0, none⟩ = some (.int .i64 4) := Rg.Blk.cell (T := 35) hX4 0 rfl
             have hy1 : w4.cell? ⟨w2.heap.size, 1, none⟩ = some (.int .u64 (N : Int)) := Rg.Blk.cell (T := 35) hX4 1 rfl
             have hy2 : w4.cell? ⟨w2.heap.size, 2, none⟩ = some (.string s4) := Rg.Blk.cell (T := 35) hX4 2 rfl
             have hy3 : w4.cell? ⟨w2.heap.size, 3, none⟩ = some (.slice A2 ys.length c2) := Rg.Blk.cell (T := 35) hX4 3 rfl
             have H4 := Lib.hid h4; have HB4 := Lib.hid hb4; have HX4 := Lib.hid hX4; clear h4 hb4 hX4 hx0 hx1 hx2 hx3 _t tok2; have tok3 := True.intro)
)
        go_roundw
        case rel =>
          have hb' : Below w1.heap.size w1 _ := HB.out.trans ((HBX.out.mono HWW.out).trans HB4.out.below)
          first
            | exact ⟨k + 1, t ++ s4, by omega, by omega, by go_num, rfl, by rw [ByteArray.size_append]; omega, by rw [bytes_append]; exact H4.out, hb'⟩
            | ((repeat apply Exists.intro); refine ⟨?_, rfl⟩; exact ⟨k + 1, t ++ s4, by omega, by omega, by go_num, rfl, by rw [ByteArray.size_append]; omega, by rw [bytes_append]; exact H4.out, hb'⟩)
        case measure => simp [intOf]; omega
      by_cases hk6 : kind = 6
      · subst hk6
        skip
        have tok := True.intro
        go_wp2_with (first
          | (refine load_cells rfl 35 _ rfl b (o + k * 4) rfl (fieldC 6 N s (.slice a xs.length c)) _ HCW.out Tryd.underlying35 rfl (by kernel_rfl) ?_; skip)
          | (go_at_call 11; refine (few_any _ 6 N s a c xs HRW.out HC.out HMX.out).mono ?_; rintro e w2 ⟨A2, c2, ys, rfl, hy6, hyc, hy70, hRy, hb2⟩; skip; rw [HS4.out]
             have HB2 := Lib.hid hb2; have HRY := Lib.hid hRy; have HY6 := Lib.hid hy6; have HYC := Lib.hid hyc; have HY7 := Lib.hid hy70; clear hb2 hRy hy6 hyc hy70)
          | (have _t := tok
             refine Rg.store_fresh rfl 35 _ _ rfl (fieldC 6 N s4 (.slice A2 ys.length c2)) _ 35 rfl rfl (by kernel_rfl) rfl (by simp [fieldC, Value.oneCell']) ?_
             intro X hX hbX
             have hx0 : X.cell? ⟨w2.heap.size, 0, none⟩ = some (.int .i64 6) := hX.cell 0 rfl
             have hx1 : X.cell? ⟨w2.heap.size, 1, none⟩ = some (.int .u64 (N : Int)) := hX.cell 1 rfl
             have hx2 : X.cell? ⟨w2.heap.size, 2, none⟩ = some (.string s4) := hX.cell 2 rfl
             have hx3 : X.cell? ⟨w2.heap.size, 3, none⟩ = some (.slice A2 ys.length c2) := hX.cell 3 rfl
             have HX := Lib.hid hX
             have HBX := Lib.hid (show Below wr.heap.size wr X from HB2.out.trans (hbX.mono HB2.out.size))
             have HOX := Lib.hid (HO.out.below HBX.out)
             have HSX := Lib.hid (Nat.le_of_lt (Nat.lt_of_lt_of_le HO.out.lt HBX.out.size))
             have HNE := Lib.hid (show w2.heap.size ≠ w1.heap.size by have := HO.out.lt; have := HB2.out.size; omega)
             have HRX := Lib.hid (HRY.out.below hbX)
             clear hX hbX _t tok; have tok2 := True.intro)
          | (have _t := tok2; go_at_call 18; have HJL := Lib.hid (show (joinC ys).length ≤ 426 by have := joinC_le ys ys.length (Nat.le_refl _) HY7.out; rw [List.take_length] at this; have := HY6.out; omega); refine (Names_any w1.heap.size w1.heap.size t.data.toList A2 _ c2 ys rfl HYC.out (by have := HY6.out; omega) _ HRX.out.rd (by have := HJL.out; omega) HOX.out (by rw [len_list]; have := HJL.out; omega) HSX.out).mono ?_; rintro e w4 ⟨rfl, h4, hb4⟩; skip
             have hX4 := hb4.kept _ _ _ _ HX.out (by decide) HNE.out
             have hy0 : w4.cell? ⟨w2.heap.size, 0, none⟩ = some (.int .i64 6) := Rg.Blk.cell (T := 35) hX4 0 rfl
             have hy1 : w4.cell? ⟨w2.heap.size, 1, none⟩ = some (.int .u64 (N : Int)) := Rg.Blk.cell (T := 35) hX4 1 rfl
             have hy2 : w4.cell? ⟨w2.heap.size, 2, none⟩ = some (.string s4) := Rg.Blk.cell (T := 35) hX4 2 rfl
             have hy3 : w4.cell? ⟨w2.heap.size, 3, none⟩ = some (.slice A2 ys.length c2) := Rg.Blk.cell (T := 35) hX4 3 rfl
             have H4 := Lib.hid h4; have HB4 := Lib.hid hb4; have HX4 := Lib.hid hX4; clear h4 hb4 hX4 hx0 hx1 hx2 hx3 _t tok2; have tok3 := True.intro)
          | (have _t := tok3; go_at_call 19; refine (RefNames_any _ A2 _ c2 ys rfl (by have := HY6.out; omega) (HRX.out.calm HB4.out HWL.out).rd HY7.out).mono ?_; rintro e w5 ⟨rfl, hb5⟩; skip
             obtain ⟨u, hu⟩ : ∃ u : ByteArray, mkS (textL (joinC ys)) = u := ⟨_, rfl⟩
             have HUD := Lib.hid (show (t ++ u).data.toList = t.data.toList ++ textL (joinC ys) by rw [bytes_append]; congr 1; rw [← hu]; try rfl)
             have hus : u.size ≤ 500 := by rw [← hu, mkS_size]; unfold textL; rw [List.length_append, be_length]; have := HJL.out; omega
             have hq : ¬ 9223372036854775807 < t.size + u.size := by omega
             rw [hu]; have HB55 := Lib.hid hb5; clear hb5 hu
             have H5 := Lib.hid (show IsOut w1.heap.size w1.heap.size (t ++ u).data.toList (w5) by rw [HUD.out]; exact H4.out.below HB55.out)
             have HB5 := Lib.hid ((HB4.out.below.trans ((HB55.out).mono (Nat.le_trans HSX.out HB4.out.size))))
             clear _t tok3))
        go_roundw
        case rel =>
          have hb' : Below w1.heap.size w1 _ := HB.out.trans ((HBX.out.mono HWW.out).trans HB5.out)
          first
            | exact ⟨k + 1, t ++ u, by omega, by omega, by go_num, rfl, by rw [ByteArray.size_append]; omega, H5.out, hb'⟩
            | ((repeat apply Exists.intro); refine ⟨?_, rfl⟩; exact ⟨k + 1, t ++ u, by omega, by omega, by go_num, rfl, by rw [ByteArray.size_append]; omega, H5.out, hb'⟩)
        case measure => simp [intOf]; omega
      by_cases hk7 : kind = 7
      · subst hk7
        obtain ⟨u, hu⟩ : ∃ u : ByteArray, mkS (textL (bigL s4.data.toList)) = u := ⟨_, rfl⟩
        have HU := Lib.hid hu
        have HUD := Lib.hid (show (t ++ u).data.toList = t.data.toList ++ textL (bigL s4.data.toList) by rw [bytes_append]; congr 1; rw [← hu]; try rfl)
        have hus : u.size ≤ 500 := by rw [← hu]; rw [mkS_size]; unfold textL; rw [List.length_append, be_length]; have := bigL_length s4.data.toList; rw [len_list] at this; omega
        have hq : ¬ 9223372036854775807 < t.size + u.size := by omega
        clear hu
        have tok := True.intro
        go_wp2_with (first
          | (refine load_cells rfl 35 _ rfl b (o + k * 4) rfl (fieldC 7 N s (.slice a xs.length c)) _ HCW.out Tryd.underlying35 rfl (by kernel_rfl) ?_; skip)
          | (go_at_call 11; refine (few_any _ 7 N s a c xs HRW.out HC.out HMX.out).mono ?_; rintro e w2 ⟨A2, c2, ys, rfl, hy6, hyc, hy70, hRy, hb2⟩; skip; rw [HS4.out]
             have HB2 := Lib.hid hb2; have HRY := Lib.hid hRy; have HY6 := Lib.hid hy6; have HYC := Lib.hid hyc; have HY7 := Lib.hid hy70; clear hb2 hRy hy6 hyc hy70)
          | (have _t := tok
             refine Rg.store_fresh rfl 35 _ _ rfl (fieldC 7 N s4 (.slice A2 ys.length c2)) _ 35 rfl rfl (by kernel_rfl) rfl (by simp [fieldC, Value.oneCell']) ?_
             intro X hX hbX
             have hx0 : X.cell? ⟨w2.heap.size, 0, none⟩ = some (.int .i64 7) := hX.cell 0 rfl
             have hx1 : X.cell? ⟨w2.heap.size, 1, none⟩ = some (.int .u64 (N : Int)) := hX.cell 1 rfl
             have hx2 : X.cell? ⟨w2.heap.size, 2, none⟩ = some (.string s4) := hX.cell 2 rfl
             have hx3 : X.cell? ⟨w2.heap.size, 3, none⟩ = some (.slice A2 ys.length c2) := hX.cell 3 rfl
             have HX := Lib.hid hX
             have HBX := Lib.hid (show Below wr.heap.size wr X from HB2.out.trans (hbX.mono HB2.out.size))
             have HOX := Lib.hid (HO.out.below HBX.out)
             have HSX := Lib.hid (Nat.le_of_lt (Nat.lt_of_lt_of_le HO.out.lt HBX.out.size))
             have HNE := Lib.hid (show w2.heap.size ≠ w1.heap.size by have := HO.out.lt; have := HB2.out.size; omega)
             have HRX := Lib.hid (HRY.out.below hbX)
             clear hX hbX _t tok; have tok2 := True.intro)
          | (have _t := tok2; go_at_call 20; refine (Big_any w1.heap.size w1.heap.size t.data.toList s4 (by omega) _ HOX.out (by rw [len_list]; omega) HSX.out).mono ?_; rintro e w4 ⟨rfl, h4, hb4⟩; skip
             have hX4 := hb4.kept _ _ _ _ HX.out (by decide) HNE.out
             have hy0 : w4.cell? ⟨w2.heap.size, 0, none⟩ = some (.int .i64 7) := Rg.Blk.cell (T := 35) hX4 0 rfl
             have hy1 : w4.cell? ⟨w2.heap.size, 1, none⟩ = some (.int .u64 (N : Int)) := Rg.Blk.cell (T := 35) hX4 1 rfl
             have hy2 : w4.cell? ⟨w2.heap.size, 2, none⟩ = some (.string s4) := Rg.Blk.cell (T := 35) hX4 2 rfl
             have hy3 : w4.cell? ⟨w2.heap.size, 3, none⟩ = some (.slice A2 ys.length c2) := Rg.Blk.cell (T := 35) hX4 3 rfl
             have H4 := Lib.hid h4; have HB4 := Lib.hid hb4; have HX4 := Lib.hid hX4; clear h4 hb4 hX4 hx0 hx1 hx2 hx3 _t tok2; have tok3 := True.intro)
          | (have _t := tok3; go_at_call 21; refine (RefBig_any _ s4 (by omega)).mono ?_; rintro e w5 ⟨rfl, hb5⟩; skip
             rw [HU.out]; have HB55 := Lib.hid hb5; clear hb5
             have H5 := Lib.hid (show IsOut w1.heap.size w1.heap.size (t ++ u).data.toList (w5) by rw [HUD.out]; exact H4.out.below HB55.out)
             have HB5 := Lib.hid ((HB4.out.below.trans ((HB55.out).mono (Nat.le_trans HSX.out HB4.out.size))))
             clear _t tok3))
        go_roundw
        case rel =>
          have hb' : Below w1.heap.size w1 _ := HB.out.trans ((HBX.out.mono HWW.out).trans HB5.out)
          first
            | exact ⟨k + 1, t ++ u, by omega, by omega, by go_num, rfl, by rw [ByteArray.size_append]; omega, H5.out, hb'⟩
            | ((repeat apply Exists.intro); refine ⟨?_, rfl⟩; exact ⟨k + 1, t ++ u, by omega, by omega, by go_num, rfl, by rw [ByteArray.size_append]; omega, H5.out, hb'⟩)
        case measure => simp [intOf]; omega
      · skip
        have e0 : (kind == 0) = false := by rw [beq_eq_false_iff_ne]; exact hk0
        have e1 : (kind == 1) = false := by rw [beq_eq_false_iff_ne]; exact hk1
        have e2 : (kind == 2) = false := by rw [beq_eq_false_iff_ne]; exact hk2
        have e3 : (kind == 3) = false := by rw [beq_eq_false_iff_ne]; exact hk3
        have e4 : (kind == 4) = false := by rw [beq_eq_false_iff_ne]; exact hk4
        have e6 : (kind == 6) = false := by rw [beq_eq_false_iff_ne]; exact hk6
        have e7 : (kind == 7) = false := by rw [beq_eq_false_iff_ne]; exact hk7
        obtain ⟨u, hu⟩ : ∃ u : ByteArray, mkS (textL s4.data.toList) = u := ⟨_, rfl⟩
        have HU := Lib.hid hu
        have HUD := Lib.hid (show (t ++ u).data.toList = t.data.toList ++ textL s4.data.toList by rw [bytes_append]; congr 1; rw [← hu]; try rfl)
        have hus : u.size ≤ 500 := by rw [← hu]; rw [mkS_size]; unfold textL; rw [List.length_append, be_length, len_list]; omega
        have hq : ¬ 9223372036854775807 < t.size + u.size := by omega
        clear hu
        have tok := True.intro
        go_wp2_with (first
          | (refine load_cells rfl 35 _ rfl b (o + k * 4) rfl (fieldC kind N s (.slice a xs.length c)) _ HCW.out Tryd.underlying35 rfl (by kernel_rfl) ?_; skip)
          | (go_at_call 11; refine (few_any _ kind N s a c xs HRW.out HC.out HMX.out).mono ?_; rintro e w2 ⟨A2, c2, ys, rfl, hy6, hyc, hy70, hRy, hb2⟩; skip; rw [HS4.out]
             have HB2 := Lib.hid hb2; have HRY := Lib.hid hRy; have HY6 := Lib.hid hy6; have HYC := Lib.hid hyc; have HY7 := Lib.hid hy70; clear hb2 hRy hy6 hyc hy70)
          | (have _t := tok
             refine Rg.store_fresh rfl 35 _ _ rfl (fieldC kind N s4 (.slice A2 ys.length c2)) _ 35 rfl rfl (by kernel_rfl) rfl (by simp [fieldC, Value.oneCell']) ?_
             intro X hX hbX
             have hx0 : X.cell? ⟨w2.heap.size, 0, none⟩ = some (.int .i64 kind) := hX.cell 0 rfl
             have hx1 : X.cell? ⟨w2.heap.size, 1, none⟩ = some (.int .u64 (N : Int)) := hX.cell 1 rfl
             have hx2 : X.cell? ⟨w2.heap.size, 2, none⟩ = some (.string s4) := hX.cell 2 rfl
             have hx3 : X.cell? ⟨w2.heap.size, 3, none⟩ = some (.slice A2 ys.length c2) := hX.cell 3 rfl
             have HX := Lib.hid hX
             have HBX := Lib.hid (show Below wr.heap.size wr X from HB2.out.trans (hbX.mono HB2.out.size))
             have HOX := Lib.hid (HO.out.below HBX.out)
             have HSX := Lib.hid (Nat.le_of_lt (Nat.lt_of_lt_of_le HO.out.lt HBX.out.size))
             have HNE := Lib.hid (show w2.heap.size ≠ w1.heap.size by have := HO.out.lt; have := HB2.out.size; omega)
             have HRX := Lib.hid (HRY.out.below hbX)
             clear hX hbX _t tok; have tok2 := True.intro)
          | (have _t := tok2; go_at_call 22; refine (Text_any w1.heap.size w1.heap.size t.data.toList s4 (by omega) _ HOX.out (by rw [len_list]; omega) HSX.out).mono ?_; rintro e w4 ⟨rfl, h4, hb4⟩; skip
             have hX4 := hb4.kept _ _ _ _ HX.out (by decide) HNE.out
             have hy0 : w4.cell? ⟨w2.heap.size, 0, none⟩ = some (.int .i64 kind) := Rg.Blk.cell (T := 35) hX4 0 rfl
             have hy1 : w4.cell? ⟨w2.heap.size, 1, none⟩ = some (.int .u64 (N : Int)) := Rg.Blk.cell (T := 35) hX4 1 rfl
             have hy2 : w4.cell? ⟨w2.heap.size, 2, none⟩ = some (.string s4) := Rg.Blk.cell (T := 35) hX4 2 rfl
             have hy3 : w4.cell? ⟨w2.heap.size, 3, none⟩ = some (.slice A2 ys.length c2) := Rg.Blk.cell (T := 35) hX4 3 rfl
             have H4 := Lib.hid h4; have HB4 := Lib.hid hb4; have HX4 := Lib.hid hX4; clear h4 hb4 hX4 hx0 hx1 hx2 hx3 _t tok2; have tok3 := True.intro)
          | (have _t := tok3; go_at_call 23; refine (RefText_any _ s4 (by omega)).mono ?_; rintro e w5 ⟨rfl, hb5⟩; skip
             rw [HU.out]; have HB55 := Lib.hid hb5; clear hb5
             have H5 := Lib.hid (show IsOut w1.heap.size w1.heap.size (t ++ u).data.toList (w5) by rw [HUD.out]; exact H4.out.below HB55.out)
             have HB5 := Lib.hid ((HB4.out.below.trans ((HB55.out).mono (Nat.le_trans HSX.out HB4.out.size))))
             clear _t tok3))
        go_roundw
        case rel =>
          have hb' : Below w1.heap.size w1 _ := HB.out.trans ((HBX.out.mono HWW.out).trans HB5.out)
          first
            | exact ⟨k + 1, t ++ u, by omega, by omega, by go_num, rfl, by rw [ByteArray.size_append]; omega, H5.out, hb'⟩
            | ((repeat apply Exists.intro); refine ⟨?_, rfl⟩; exact ⟨k + 1, t ++ u, by omega, by omega, by go_num, rfl, by rw [ByteArray.size_append]; omega, H5.out, hb'⟩)
        case measure => simp [intOf]; omega
    have hd : decide (k < n) = true ∧ decide ((k : Int) < 20) = false ∨ decide (k < n) = false := by
      by_cases h1 : k < n
      · left; simp; omega
      · right; simp; omega
    have HRd := Lib.hid (Bo.Read.of HO.out)
    rcases hd with ⟨hd1, hd2⟩ | hd1
    all_goals
      try have hik : (k : Int) < n := by simp at hd1; omega
      go_wp2_with (go_at_call 24; refine (Bytes_eq w1.heap.size w1.heap.size t.data.toList t (mkS_of t) _ HRd.out HWW.out).mono ?_; rintro e w9 ⟨rfl, h9, hb9, _⟩; skip; have HB9 := Lib.hid hb9; clear h9 hb9)
      go_ret
      exact ⟨by simp, HB1.out.trans ((HB.out.trans HB9.out).mono HB1.out.size)⟩
end Go.Proofs.YtkpecnkflibmjaaDoor.Wi
