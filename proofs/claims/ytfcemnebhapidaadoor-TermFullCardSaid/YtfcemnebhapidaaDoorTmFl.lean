/- The law TermFull. -/
import Derived.Test.YtfcemnebhapidaaDoorTmAw
set_option linter.unusedVariables false
set_option linter.unusedSimpArgs false
namespace Go.Proofs.YtfcemnebhapidaaDoor.Te
open Go.RowKit Go.Proofs.YtfcemnebhapidaaDoor.Ow Go.Proofs.YtfcemnebhapidaaDoor.Mp Go.Maps
theorem and15 (n : Int) : ∃ r : Nat, r < 16 ∧ bits .and .i64 n 15 = (r : Int) := by
  have h127 : (BitVec.ofInt 64 15).toNat = 2 ^ 4 - 1 := by decide
  have key : (BitVec.ofInt 64 n &&& BitVec.ofInt 64 15).toNat = (n % ((2 ^ 64 : Nat) : Int)).toNat % 2 ^ 4 := by
    rw [BitVec.toNat_and, BitVec.toNat_ofInt, h127, Nat.and_two_pow_sub_one_eq_mod]
  refine ⟨(n % 16).toNat, by omega, ?_⟩
  show IntKind.i64.wrap ((BitVec.ofInt 64 n &&& BitVec.ofInt 64 15).toNat : Nat) = _
  rw [key, IntKind.wrap_i64]
  omega
def Tb : Tm := .atom [98]
theorem parB : parse [98] = some Tb := by rfl
theorem Tb_wf : Tb.wf := (parse_iff.1 parB).wf
theorem Tb_len : Tb.txt.length ≤ 900 := by decide
theorem pts_rep (m : Nat) (h : 0 < m) : ptsL (List.replicate m Ta) = [[97]] := by
  have hk : Kn (List.replicate m Ta) [Ta] := by
    obtain ⟨h1, h2⟩ := clsB_out (K := [Ta]) (by decide)
    refine ⟨by simp, fun t ht => ?_, fun t ht => ?_, fun t ht => ?_, h1, h2⟩
    · rw [List.mem_singleton.1 ht]; exact Ta_wf
    · rw [(List.mem_replicate.1 ht).2]; simp
    · rw [List.mem_singleton.1 ht]; exact .base (List.mem_replicate.2 ⟨by omega, rfl⟩)
  rw [← hk.pts]
  unfold prtsOf
  rw [List.map_singleton, List.mergeSort_singleton]
  rfl
theorem blk_upd {W w' : World} {b T : Nat} {cs : Array Value} {s : List Nat} (h : Rg.Blk W b T cs) (hu : Sp.Upd W w' s) (hn : b ∉ s) : Rg.Blk w' b T cs := by
  have hl := h.lt
  unfold Rg.Blk at *
  rw [hu.block b hl hn]; exact h
theorem min_succ {k : Nat} (h : k < 512) : List.replicate (min k 512) Ta ++ [Ta] = List.replicate (min (k + 1) 512) Ta := by
  rw [Nat.min_eq_left (by omega), Nat.min_eq_left (by omega), List.replicate_succ']
theorem min_full {k : Nat} (h : ¬ k < 512) : List.replicate (min k 512) Ta = List.replicate (min (k + 1) 512) Ta := by
  rw [Nat.min_eq_right (by omega), Nat.min_eq_right (by omega)]
set_option maxRecDepth 20000 in
set_option maxHeartbeats 4000000 in
theorem law_TermFull (w : World) (n : Int) (hn : (Lit.int .i64 n).wf = true) (a : Nat → Addr) (hE : Ei.ErrsAll w a) : Calls Tryd.prog 6 #[.int .i64 n] w fun e w' => e = .returned (.bool true) ∧ Below w.heap.size w w' := by
  have HAW := Lib.hid (awake31 w a hE)
  obtain ⟨q, hq, hb⟩ := and15 n
  obtain ⟨N, hN1, hN2, hN3⟩ : ∃ N : Nat, wrap64 (505 + (q : Int)) = (N : Int) ∧ 505 ≤ N ∧ N ≤ 520 := ⟨505 + q, by unfold wrap64; omega, by omega, by omega⟩
  have HN2 := Lib.hid hN2
  have HN3 := Lib.hid hN3
  have HOA := Lib.hid (show ∀ W, Below w.heap.size w W → Calls Tryd.prog 13 #[.string ⟨#[97]⟩] W fun e w' => e = .returned (.agg (tv Ta (.slice none 0 0))) ∧ Below W.heap.size W w' from fun W hW => (Of_some W [97] Ta (by decide) par8 a (hE.below hW)).mono (by
    rintro e w' ⟨A, c, rfl, hf, hb⟩
    exact ⟨by rw [show Value.slice A Ta.prt.length c = .slice none 0 0 from hf.tp], hb⟩))
  have HOB := Lib.hid (show ∀ W, Below w.heap.size w W → Calls Tryd.prog 13 #[.string ⟨#[98]⟩] W fun e w' => e = .returned (.agg (tv Tb (.slice none 0 0))) ∧ Below W.heap.size W w' from fun W hW => (Of_some W [98] Tb (by decide) parB a (hE.below hW)).mono (by
    rintro e w' ⟨A, c, rfl, hf, hb⟩
    exact ⟨by rw [show Value.slice A Tb.prt.length c = .slice none 0 0 from hf.tp], hb⟩))
  have HTA := Lib.hid (show ∀ W, TP W Ta (.slice none 0 0) from fun W => rfl)
  have HTB := Lib.hid (show ∀ W, TP W Tb (.slice none 0 0) from fun W => rfl)
  have HE := Lib.hid hE
  clear hE hq hN2 hN3
  go_enter Tryd.func6, Tryd.ntmps6
  go_wp2_with (first
    | (go_at_call 9; refine HAW.out.mono ?_; rintro e w1 ⟨rfl, hb1⟩; skip; have HB1 := Lib.hid hb1; clear hb1)
    | (go_at_call 23; refine (New_KS w _ HB1.out).mono ?_; rintro e w2 ⟨kb, mb, rfl, h1, h2, h3, h4⟩; skip; have HK := Lib.hid h1; clear h1 h2 h3 h4)
    | (go_at_call 13; refine (HOA.out _ HK.out.bel).mono ?_; rintro e w3 ⟨rfl, hb3⟩; skip; have HKx := Lib.hid (HK.out.below hb3); clear HK; have HLT := Lib.hid (show kb < w3.heap.size ∧ mb < w3.heap.size from by obtain ⟨K, h1, _⟩ := HKx.out.out; exact ⟨h1.1.lt, h1.ltM⟩); have HK := HKx; clear HKx hb3)
    | (refine Rg.store_fresh rfl 31 _ _ rfl #[.string (strB Ta.knd), .string (strB Ta.txt), .slice none 0 0] _ 31 rfl rfl (by kernel_rfl) rfl (by simp [Value.oneCell']) ?_; intro X hX hbX; have HX := Lib.hid hX; have HKx := Lib.hid (HK.out.below hbX); clear HK; have HK := HKx; clear HKx hX hbX))
  generalize hab : w3.heap.size = ab at *
  have HKM := Lib.hid (show ab ∉ [kb, mb] from by have h := HLT.out; simp; omega)
  clear hab HLT
  go_loopw [17] (fun i wr => ∃ k : Nat, k ≤ N ∧ i = .int .i64 k ∧ KS w wr kb mb (List.replicate (min k 512) Ta) ∧ Rg.Blk wr ab 31 #[.string (strB Ta.knd), .string (strB Ta.txt), .slice none 0 0]) (fun i _ => N - (intOf i).toNat)
  case atStart => exact ⟨0, Nat.zero_le _, rfl, HK.out, HX.out⟩
  case round =>
    obtain ⟨k, hk, rfl, hks, hbl⟩ := hrel
    have HKR := Lib.hid hks
    have HBR := Lib.hid hbl
    have HKN := Lib.hid hk
    clear hks hbl HK HX
    by_cases hkn : k < N
    · have hd : decide (k < N) = true := by simp; exact hkn
      have hki : (k : Int) < N := by omega
      have HW9 := Lib.hid (show wrap64 ((k : Int) + 1) = (k : Int) + 1 from by have h := HN3.out; unfold wrap64; omega)
      by_cases h5 : k < 512
      · have hd5 : decide (k < 512) = true := by simp; exact h5
        have hd6 : decide ((k : Int) < 512) = true := by simp; omega
        go_wp2_with (first
          | (refine Cv.load_cells rfl 31 _ rfl ab 0 rfl #[.string (strB Ta.knd), .string (strB Ta.txt), .slice none 0 0] _ (fun j v hv => by rw [Nat.zero_add]; exact HBR.out.cell j hv) Tryd.underlying31 rfl (by kernel_rfl) ?_; skip)
          | (go_at_call 16; refine (Learn_KS w _ kb mb _ Ta _ HKR.out Ta_wf Ta_len (HTA.out _) (by rw [List.length_replicate]; omega)).mono ?_; rintro e w4 ⟨rfl, hks, hu⟩; skip; have HK4 := Lib.hid hks; have HB4 := Lib.hid (blk_upd HBR.out hu HKM.out); clear hks hu))
        go_roundw
        case rel =>
          have REL := Lib.hid (show ∃ k' : Nat, k' ≤ N ∧ Value.int .i64 ((k : Int) + 1) = .int .i64 k' ∧ KS w w4 kb mb (List.replicate (min k' 512) Ta) ∧ Rg.Blk w4 ab 31 #[.string (strB Ta.knd), .string (strB Ta.txt), .slice none 0 0] from ⟨k + 1, hkn, rfl, by rw [← min_succ h5]; exact HK4.out, HB4.out⟩)
          first
            | exact REL.out
            | ((repeat apply Exists.intro); refine ⟨?_, rfl⟩; exact REL.out)
        case measure => (simp [intOf]; omega)
      · have hd5 : decide (k < 512) = false := by simp; omega
        have hd6 : decide ((k : Int) < 512) = false := by simp; omega
        go_wp2_with (first
          | (refine Cv.load_cells rfl 31 _ rfl ab 0 rfl #[.string (strB Ta.knd), .string (strB Ta.txt), .slice none 0 0] _ (fun j v hv => by rw [Nat.zero_add]; exact HBR.out.cell j hv) Tryd.underlying31 rfl (by kernel_rfl) ?_; skip)
          | (go_at_call 16; refine (LearnFull_KS w _ kb mb _ Ta _ HKR.out Ta_wf (HTA.out _) (by rw [List.length_replicate]; omega) a HE.out).mono ?_; rintro e w4 ⟨rfl, hb⟩; skip; have HK4 := Lib.hid (HKR.out.below hb); have HB4 := Lib.hid (HBR.out.below hb HBR.out.lt); clear hb))
        go_roundw
        case rel =>
          have REL := Lib.hid (show ∃ k' : Nat, k' ≤ N ∧ Value.int .i64 (wrap64 ((k : Int) + 1)) = .int .i64 k' ∧ KS w w4 kb mb (List.replicate (min k' 512) Ta) ∧ Rg.Blk w4 ab 31 #[.string (strB Ta.knd), .string (strB Ta.txt), .slice none 0 0] from ⟨k + 1, hkn, step_int HW9.out, by rw [← min_full h5]; exact HK4.out, HB4.out⟩)
          first
            | exact REL.out
            | ((repeat apply Exists.intro); refine ⟨?_, rfl⟩; exact REL.out)
        case measure => exact step_less hkn HW9.out
    · have hd : decide (k < N) = false := by simp; omega
      have hki : ¬ (k : Int) < N := by omega
      obtain ⟨m, hm⟩ : ∃ m, min k 512 = m := ⟨_, rfl⟩
      have HK := Lib.hid (hm ▸ HKR.out)
      clear HKR
      by_cases h5 : 512 ≤ N
      · have hd5 : decide (512 ≤ N) = true := by simp; exact h5
        have hd6 : decide ((512 : Int) ≤ N) = true := by simp; omega
        have HMN := Lib.hid (show m = 512 by omega)
        have HCD := Lib.hid (show ∀ W, Below w.heap.size w W → Calls Tryd.prog 22 #[.iface 137 (.pointer (some (a 7)))] W fun e w' => e = .returned (.int .i64 7) ∧ W = w' from fun W hW => Ei.Code_any W a (HE.out.below hW) 7 (by decide))
        go_wp2_with (first
          | (go_at_call 12; refine (Parts_KS w _ kb mb _ HK.out (by have h := HMN.out; rw [List.length_replicate]; omega)).mono ?_; rintro e w4 ⟨v4, rfl, ho, hb⟩; rw [pts_rep _ (by have h := HMN.out; omega)] at ho; obtain ⟨A4, c4, rfl, hr, _⟩ := ho.form; rw [List.length_map]; skip; have HR4 := Lib.hid hr; have HK1 := Lib.hid (HK.out.below hb); clear HK; have HK := HK1; clear HK1 ho hr hb)
          | (go_at_call 11; refine (same_any _ _ _ _ _ _ _ [[97]] [[97]] rfl rfl (HR4.out.below (Below.alloc (Below.refl _ _) (Nat.le_refl _) _)) (Rd.one _ _ _) (by decide)).mono ?_; rintro e w5 ⟨rfl, hb⟩; skip; have HK1 := Lib.hid (HK.out.below (Below.trans (Below.alloc (Below.refl _ _) (Nat.le_refl _) _) (Below.mono hb (by simp)))); clear HK; have HK := HK1; clear HK1 hb)
          | (go_at_call 13; refine (HOB.out _ HK.out.bel).mono ?_; rintro e w6 ⟨rfl, hb⟩; skip; have HK1 := Lib.hid (HK.out.below hb); clear HK; have HK := HK1; clear HK1 hb)
          | (go_at_call 16; refine (LearnFull_KS w _ kb mb _ Tb _ HK.out Tb_wf (HTB.out _) (by have h := HMN.out; rw [List.length_replicate]; omega) a HE.out).mono ?_; rintro e w7 ⟨rfl, hb⟩; skip; have HK2 := Lib.hid (HK.out.below hb); clear hb)
          | (go_at_call 22; refine (HCD.out _ HK2.out.bel).mono ?_; rintro e w8 ⟨rfl, rfl⟩; skip))
        go_ret
        exact ⟨by first | rfl | simp, HK2.out.bel⟩
      · have hd5 : decide (512 ≤ N) = false := by simp; omega
        have hd6 : decide ((512 : Int) ≤ N) = false := by simp; omega
        have HMN := Lib.hid (show m < 512 ∧ 0 < m by have h := HN2.out; omega)
        have HCD := Lib.hid (show ∀ W, Below w.heap.size w W → Calls Tryd.prog 22 #[.nilIface] W fun e w' => e = .returned (.int .i64 0) ∧ W = w' from fun W hW => Ei.Code_any W a (HE.out.below hW) 0 (by decide))
        go_wp2_with (first
          | (go_at_call 12; refine (Parts_KS w _ kb mb _ HK.out (by have h := HMN.out; rw [List.length_replicate]; omega)).mono ?_; rintro e w4 ⟨v4, rfl, ho, hb⟩; rw [pts_rep _ (by have h := HMN.out; omega)] at ho; obtain ⟨A4, c4, rfl, hr, _⟩ := ho.form; rw [List.length_map]; skip; have HR4 := Lib.hid hr; have HK1 := Lib.hid (HK.out.below hb); clear HK; have HK := HK1; clear HK1 ho hr hb)
          | (go_at_call 11; refine (same_any _ _ _ _ _ _ _ [[97]] [[97]] rfl rfl (HR4.out.below (Below.alloc (Below.refl _ _) (Nat.le_refl _) _)) (Rd.one _ _ _) (by decide)).mono ?_; rintro e w5 ⟨rfl, hb⟩; skip; have HK1 := Lib.hid (HK.out.below (Below.trans (Below.alloc (Below.refl _ _) (Nat.le_refl _) _) (Below.mono hb (by simp)))); clear HK; have HK := HK1; clear HK1 hb)
          | (go_at_call 13; refine (HOB.out _ HK.out.bel).mono ?_; rintro e w6 ⟨rfl, hb⟩; skip; have HK1 := Lib.hid (HK.out.below hb); clear HK; have HK := HK1; clear HK1 hb)
          | (go_at_call 16; refine (Learn_KS w _ kb mb _ Tb _ HK.out Tb_wf Tb_len (HTB.out _) (by have h := HMN.out; rw [List.length_replicate]; omega)).mono ?_; rintro e w7 ⟨rfl, hks, _⟩; skip; have HK2 := Lib.hid hks; clear hks)
          | (go_at_call 22; refine (HCD.out _ HK2.out.bel).mono ?_; rintro e w8 ⟨rfl, rfl⟩; skip))
        go_ret
        exact ⟨by first | rfl | simp, HK2.out.bel⟩
end Go.Proofs.YtfcemnebhapidaaDoor.Te
