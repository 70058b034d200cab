/- Know.Derives: all but shares. -/
import Derived.Test.YtfcemnebhapidaaDoorTmTk2
set_option linter.unusedVariables false
set_option linter.unusedSimpArgs false
namespace Go.Proofs.YtfcemnebhapidaaDoor.Te
open Go.RowKit Go.Proofs.YtfcemnebhapidaaDoor.Ow Go.Proofs.YtfcemnebhapidaaDoor.Mp Go.Maps
theorem word_ne2 {k : Nat} (h : k < 7) : (k ≠ 4 → word k ≠ [115, 104, 97, 114, 101]) ∧ word k ≠ [97, 116, 111, 109] := by
  refine ⟨fun hk e => ?_, fun e => ?_⟩
  · have := congrArg numW e
    rw [numW_word k h, show numW [115, 104, 97, 114, 101] = 4 by decide] at this
    exact hk this
  · have := congrArg numW e
    rw [numW_word k h, show numW [97, 116, 111, 109] = 7 by decide] at this
    omega
set_option maxRecDepth 20000 in
set_option maxHeartbeats 4000000 in
theorem Derives_atom (s : List UInt8)   (w : World) (kb mb n N : Nat) (G : List Tm) (p : Value) (h : IsKn w kb mb n N G) (ht : Tm.wf (.atom s)) (hp : TP w (.atom s) p) (hl : (Tm.txt (.atom s)).length ≤ 5000) : Calls Tryd.prog 15 #[.pointer (some ⟨kb, 0, none⟩), .agg (tv (.atom s) p)] w fun e w' => e = .returned (.bool (syn G (.atom s))) ∧ Below w.heap.size w w'  := by
  obtain rfl : p = .slice none 0 0 := id hp
  have hs1 : ((strB (Tm.knd (.atom s))).toList == [115, 104, 97, 114, 101]) = false := by rw [strB_toList]; rfl
  have hs2 : ((strB (Tm.knd (.atom s))).toList == [97, 116, 111, 109]) = true := by rw [strB_toList]; rfl
  by_cases hm : (.atom s) ∈ G
  · have hb : decide ((.atom s) ∈ G) = true := decide_eq_true hm
    have HSY := Lib.hid (show syn G (.atom s) = true from syn_mem hm)
    have HTP := Lib.hid hp
    have HKN := Lib.hid h
    have HHS := Lib.hid (fun W (hW : Below w.heap.size w W) => has_any W kb mb n N G (h.below hW) (.atom s) ht (by omega) (.slice none 0 0) ⟨_, _, _, rfl⟩)
    have hte : ((strB (Tm.txt (.atom s))).toList == []) = false := by rw [strB_toList, beq_eq_false_iff_ne]; exact txt_ne ht
    rw [hb] at HHS
    clear h ht hp hl
    go_enter Tryd.func15, Tryd.ntmps15
    go_upto_region 1 with (refine Rg.box_fresh rfl 31 _ rfl #[.string (strB (Tm.knd (.atom s))), .string (strB (Tm.txt (.atom s))), .slice none 0 0] rfl ?_; intro X hX hbX hnX; have HX := Lib.hid hX; have HBX := Lib.hid hbX; clear hX hbX hnX)
    have c1 := HX.out.cell 1 (v := .string (strB (Tm.txt (.atom s)))) rfl
    go_wp2_with (first
      | (refine Cv.load_cells rfl 31 _ rfl w.heap.size 0 rfl #[.string (strB (Tm.knd (.atom s))), .string (strB (Tm.txt (.atom s))), .slice none 0 0] _ (fun j v hv => by rw [Nat.zero_add]; exact HX.out.cell j hv) Tryd.underlying31 rfl (by kernel_rfl) ?_; skip)
      | (go_at_call 34; refine (HHS.out _ HBX.out).mono ?_; rintro e W1 ⟨rfl, hb1⟩; skip; have HBW := Lib.hid (HBX.out.trans (Below.mono hb1 HBX.out.size)); have HXW := Lib.hid (HX.out.below hb1 HX.out.lt); clear hb1))
    go_ret
    exact ⟨by rw [HSY.out]; rfl, HBW.out⟩
  · have hb : decide ((.atom s) ∈ G) = false := decide_eq_false hm
    have HTP := Lib.hid hp
    have HKN := Lib.hid h
    have HHS := Lib.hid (fun W (hW : Below w.heap.size w W) => has_any W kb mb n N G (h.below hW) (.atom s) ht (by omega) (.slice none 0 0) ⟨_, _, _, rfl⟩)
    have hte : ((strB (Tm.txt (.atom s))).toList == []) = false := by rw [strB_toList, beq_eq_false_iff_ne]; exact txt_ne ht
    rw [hb] at HHS
    clear h ht hp hl
    go_enter Tryd.func15, Tryd.ntmps15
    go_upto_region 1 with (refine Rg.box_fresh rfl 31 _ rfl #[.string (strB (Tm.knd (.atom s))), .string (strB (Tm.txt (.atom s))), .slice none 0 0] rfl ?_; intro X hX hbX hnX; have HX := Lib.hid hX; have HBX := Lib.hid hbX; clear hX hbX hnX)
    have c1 := HX.out.cell 1 (v := .string (strB (Tm.txt (.atom s)))) rfl
    go_upto_region 5 with (first
      | (refine Cv.load_cells rfl 31 _ rfl w.heap.size 0 rfl #[.string (strB (Tm.knd (.atom s))), .string (strB (Tm.txt (.atom s))), .slice none 0 0] _ (fun j v hv => by rw [Nat.zero_add]; exact HX.out.cell j hv) Tryd.underlying31 rfl (by kernel_rfl) ?_; skip)
      | (go_at_call 34; refine (HHS.out _ HBX.out).mono ?_; rintro e W1 ⟨rfl, hb1⟩; skip; have HBW := Lib.hid (HBX.out.trans (Below.mono hb1 HBX.out.size)); have HXW := Lib.hid (HX.out.below hb1 HX.out.lt); clear hb1))
    clear c1 hte
    have x0 := HXW.out.cell 0 (v := .string (strB (Tm.knd (.atom s)))) rfl
    have x2 := HXW.out.cell 2 (v := .slice none 0 0) rfl
    have HSY := Lib.hid (show syn G (.atom s) = false by unfold syn; exact hb)
    go_upto_region 9 with fail
    refine wp_loop_rounds 1 ?_
    rw [rounds_succ]
    go_upto_region 14 with fail
    have x0 := HXW.out.cell 0 (v := .string (strB (Tm.knd (.atom s)))) rfl
    go_wp2
    go_ret
    exact ⟨by rw [HSY.out]; rfl, HBW.out⟩
set_option maxRecDepth 20000 in
set_option maxHeartbeats 4000000 in
theorem Derives_one (k : Nat) (a : Tm) (iha : ∀ (w : World) (kb mb n N : Nat) (G : List Tm) (p : Value) (h : IsKn w kb mb n N G) (ht : Tm.wf a) (hp : TP w a p) (hl : (Tm.txt a).length ≤ 5000), Calls Tryd.prog 15 #[.pointer (some ⟨kb, 0, none⟩), .agg (tv a p)] w fun e w' => e = .returned (.bool (syn G a)) ∧ Below w.heap.size w w' )  (w : World) (kb mb n N : Nat) (G : List Tm) (p : Value) (h : IsKn w kb mb n N G) (ht : Tm.wf (.one k a)) (hp : TP w (.one k a) p) (hl : (Tm.txt (.one k a)).length ≤ 5000) : Calls Tryd.prog 15 #[.pointer (some ⟨kb, 0, none⟩), .agg (tv (.one k a) p)] w fun e w' => e = .returned (.bool (syn G (.one k a))) ∧ Below w.heap.size w w'  := by
  obtain ⟨A, c, pa, rfl, h1, h2, hR, hpa⟩ := id hp
  obtain ⟨b0, o0, rfl, hbl, _⟩ := hR.place (by rw [tcs_length]; simp)
  obtain ⟨Aa, ca, rfl⟩ := hpa.slice
  have hs1 : ((strB (Tm.knd (.one k a))).toList == [115, 104, 97, 114, 101]) = false := by rw [strB_toList, beq_eq_false_iff_ne]; exact (word_ne2 (k := k) (by have := ht.1; omega)).1 (by have := ht.1; omega)
  have hs2 : ((strB (Tm.knd (.one k a))).toList == [97, 116, 111, 109]) = false := by rw [strB_toList, beq_eq_false_iff_ne]; exact (word_ne2 (k := k) (by have := ht.1; omega)).2
  by_cases hm : (.one k a) ∈ G
  · have hb : decide ((.one k a) ∈ G) = true := decide_eq_true hm
    have HSY := Lib.hid (show syn G (.one k a) = true from syn_mem hm)
    have HTP := Lib.hid hp
    have HKN := Lib.hid h
    have HHS := Lib.hid (fun W (hW : Below w.heap.size w W) => has_any W kb mb n N G (h.below hW) (.one k a) ht (by omega) (.slice (some ⟨b0, o0, none⟩) 1 c) ⟨_, _, _, rfl⟩)
    have hte : ((strB (Tm.txt (.one k a))).toList == []) = false := by rw [strB_toList, beq_eq_false_iff_ne]; exact txt_ne ht
    rw [hb] at HHS
    clear h ht hp hl
    go_enter Tryd.func15, Tryd.ntmps15
    go_upto_region 1 with (refine Rg.box_fresh rfl 31 _ rfl #[.string (strB (Tm.knd (.one k a))), .string (strB (Tm.txt (.one k a))), .slice (some ⟨b0, o0, none⟩) 1 c] rfl ?_; intro X hX hbX hnX; have HX := Lib.hid hX; have HBX := Lib.hid hbX; clear hX hbX hnX)
    have c1 := HX.out.cell 1 (v := .string (strB (Tm.txt (.one k a)))) rfl
    go_wp2_with (first
      | (refine Cv.load_cells rfl 31 _ rfl w.heap.size 0 rfl #[.string (strB (Tm.knd (.one k a))), .string (strB (Tm.txt (.one k a))), .slice (some ⟨b0, o0, none⟩) 1 c] _ (fun j v hv => by rw [Nat.zero_add]; exact HX.out.cell j hv) Tryd.underlying31 rfl (by kernel_rfl) ?_; skip)
      | (go_at_call 34; refine (HHS.out _ HBX.out).mono ?_; rintro e W1 ⟨rfl, hb1⟩; skip; have HBW := Lib.hid (HBX.out.trans (Below.mono hb1 HBX.out.size)); have HXW := Lib.hid (HX.out.below hb1 HX.out.lt); clear hb1))
    go_ret
    exact ⟨by rw [HSY.out]; rfl, HBW.out⟩
  · have hb : decide ((.one k a) ∈ G) = false := decide_eq_false hm
    have HTP := Lib.hid hp
    have HKN := Lib.hid h
    have HHS := Lib.hid (fun W (hW : Below w.heap.size w W) => has_any W kb mb n N G (h.below hW) (.one k a) ht (by omega) (.slice (some ⟨b0, o0, none⟩) 1 c) ⟨_, _, _, rfl⟩)
    have hte : ((strB (Tm.txt (.one k a))).toList == []) = false := by rw [strB_toList, beq_eq_false_iff_ne]; exact txt_ne ht
    have HCa := Lib.hid (show ∀ W, Below w.heap.size w W → ∀ j v, (#[.string (strB (Tm.knd a)), .string (strB (Tm.txt a)), .slice Aa (Tm.prt a).length ca] : Array Value)[j]? = some v → W.cell? ⟨b0, o0 + j, none⟩ = some v from fun W hW j v hv => by
      have h9 := rd_cell (hR.below hW) (0 + j) v (by rw [tcs_one]; rw [Nat.zero_add]; simpa [tcl] using hv)
      rw [Nat.zero_add] at h9; exact h9)
    have HDa := Lib.hid (fun W (hW : Below w.heap.size w W) => iha W kb mb n N G _ (h.below hW) ht.2 (hpa.below hW) (by have h9 := hl; unfold Tm.txt at h9; simp at h9; omega))
    clear hR hpa
    rw [hb] at HHS
    clear h ht hp hl
    go_enter Tryd.func15, Tryd.ntmps15
    go_upto_region 1 with (refine Rg.box_fresh rfl 31 _ rfl #[.string (strB (Tm.knd (.one k a))), .string (strB (Tm.txt (.one k a))), .slice (some ⟨b0, o0, none⟩) 1 c] rfl ?_; intro X hX hbX hnX; have HX := Lib.hid hX; have HBX := Lib.hid hbX; clear hX hbX hnX)
    have c1 := HX.out.cell 1 (v := .string (strB (Tm.txt (.one k a)))) rfl
    go_upto_region 5 with (first
      | (refine Cv.load_cells rfl 31 _ rfl w.heap.size 0 rfl #[.string (strB (Tm.knd (.one k a))), .string (strB (Tm.txt (.one k a))), .slice (some ⟨b0, o0, none⟩) 1 c] _ (fun j v hv => by rw [Nat.zero_add]; exact HX.out.cell j hv) Tryd.underlying31 rfl (by kernel_rfl) ?_; skip)
      | (go_at_call 34; refine (HHS.out _ HBX.out).mono ?_; rintro e W1 ⟨rfl, hb1⟩; skip; have HBW := Lib.hid (HBX.out.trans (Below.mono hb1 HBX.out.size)); have HXW := Lib.hid (HX.out.below hb1 HX.out.lt); clear hb1))
    clear c1 hte
    have x0 := HXW.out.cell 0 (v := .string (strB (Tm.knd (.one k a)))) rfl
    have x2 := HXW.out.cell 2 (v := .slice (some ⟨b0, o0, none⟩) 1 c) rfl
    go_upto_region 9 with fail
    clear x0 x2
    obtain ⟨sa, hsa⟩ : ∃ x, syn G a = x := ⟨_, rfl⟩
    cases sa with
    | false =>

      have HSY := Lib.hid (show syn G (.one k a) = false by unfold syn; rw [hb, hsa]; rfl)
      rw [hsa] at HDa
      refine wp_loop_rounds 1 ?_
      rw [rounds_succ]
      go_wp2_with (first
          | (refine Cv.load_cells rfl 31 _ rfl b0 o0 rfl #[.string (strB (Tm.knd a)), .string (strB (Tm.txt a)), .slice Aa (Tm.prt a).length ca] _ (HCa.out _ HBW.out) Tryd.underlying31 rfl (by kernel_rfl) ?_; skip)
          | (refine Rg.store_fresh rfl 31 _ _ rfl #[.string (strB (Tm.knd a)), .string (strB (Tm.txt a)), .slice Aa (Tm.prt a).length ca] _ 31 rfl rfl (by kernel_rfl) rfl (by simp [Value.oneCell']) ?_; intro Y hY hbY; have HY := Lib.hid hY; have HBWx := Lib.hid (HBW.out.trans (Below.mono hbY HBW.out.size)); clear HBW; have HBW := HBWx; clear HBWx; have HXWx := Lib.hid (HXW.out.below hbY HXW.out.lt); clear HXW; have HXW := HXWx; clear HXWx; clear hY hbY)
          | (refine Cv.load_cells rfl 31 _ rfl _ 0 rfl #[.string (strB (Tm.knd a)), .string (strB (Tm.txt a)), .slice Aa (Tm.prt a).length ca] _ (fun j v hv => by rw [Nat.zero_add]; exact HY.out.cell j hv) Tryd.underlying31 rfl (by kernel_rfl) ?_; skip)
          | (go_at_call 15; refine (HDa.out _ HBW.out).mono ?_; rintro e W5 ⟨rfl, hb5⟩; skip; have HBWx := Lib.hid (HBW.out.trans (Below.mono hb5 HBW.out.size)); clear HBW; have HBW := HBWx; clear HBWx; have HXWx := Lib.hid (HXW.out.below hb5 HXW.out.lt); clear HXW; have HXW := HXWx; clear HXWx; clear hb5 HY))
      go_ret
      exact ⟨by rw [HSY.out]; rfl, HBW.out⟩
    | true =>

      have HSY := Lib.hid (show syn G (.one k a) = true by unfold syn; rw [hb, hsa]; rfl)
      rw [hsa] at HDa
      refine wp_loop_rounds 2 ?_
      rw [rounds_succ]
      go_wp2_with (first
          | (refine Cv.load_cells rfl 31 _ rfl b0 o0 rfl #[.string (strB (Tm.knd a)), .string (strB (Tm.txt a)), .slice Aa (Tm.prt a).length ca] _ (HCa.out _ HBW.out) Tryd.underlying31 rfl (by kernel_rfl) ?_; skip)
          | (refine Rg.store_fresh rfl 31 _ _ rfl #[.string (strB (Tm.knd a)), .string (strB (Tm.txt a)), .slice Aa (Tm.prt a).length ca] _ 31 rfl rfl (by kernel_rfl) rfl (by simp [Value.oneCell']) ?_; intro Y hY hbY; have HY := Lib.hid hY; have HBWx := Lib.hid (HBW.out.trans (Below.mono hbY HBW.out.size)); clear HBW; have HBW := HBWx; clear HBWx; have HXWx := Lib.hid (HXW.out.below hbY HXW.out.lt); clear HXW; have HXW := HXWx; clear HXWx; clear hY hbY)
          | (refine Cv.load_cells rfl 31 _ rfl _ 0 rfl #[.string (strB (Tm.knd a)), .string (strB (Tm.txt a)), .slice Aa (Tm.prt a).length ca] _ (fun j v hv => by rw [Nat.zero_add]; exact HY.out.cell j hv) Tryd.underlying31 rfl (by kernel_rfl) ?_; skip)
          | (go_at_call 15; refine (HDa.out _ HBW.out).mono ?_; rintro e W5 ⟨rfl, hb5⟩; skip; have HBWx := Lib.hid (HBW.out.trans (Below.mono hb5 HBW.out.size)); clear HBW; have HBW := HBWx; clear HBWx; have HXWx := Lib.hid (HXW.out.below hb5 HXW.out.lt); clear HXW; have HXW := HXWx; clear HXWx; clear hb5 HY))
      rw [rounds_succ]
      go_upto_region 14 with fail
      have x0 := HXW.out.cell 0 (v := .string (strB (Tm.knd (.one k a)))) rfl
      go_wp2
      go_ret
      exact ⟨by rw [HSY.out]; rfl, HBW.out⟩
set_option maxRecDepth 20000 in
set_option maxHeartbeats 4000000 in
theorem Derives_two (k : Nat) (a b : Tm) (iha : ∀ (w : World) (kb mb n N : Nat) (G : List Tm) (p : Value) (h : IsKn w kb mb n N G) (ht : Tm.wf a) (hp : TP w a p) (hl : (Tm.txt a).length ≤ 5000), Calls Tryd.prog 15 #[.pointer (some ⟨kb, 0, none⟩), .agg (tv a p)] w fun e w' => e = .returned (.bool (syn G a)) ∧ Below w.heap.size w w' ) (ihb : ∀ (w : World) (kb mb n N : Nat) (G : List Tm) (p : Value) (h : IsKn w kb mb n N G) (ht : Tm.wf b) (hp : TP w b p) (hl : (Tm.txt b).length ≤ 5000), Calls Tryd.prog 15 #[.pointer (some ⟨kb, 0, none⟩), .agg (tv b p)] w fun e w' => e = .returned (.bool (syn G b)) ∧ Below w.heap.size w w' ) (h4 : k ≠ 4) (w : World) (kb mb n N : Nat) (G : List Tm) (p : Value) (h : IsKn w kb mb n N G) (ht : Tm.wf (.two k a b)) (hp : TP w (.two k a b) p) (hl : (Tm.txt (.two k a b)).length ≤ 5000) : Calls Tryd.prog 15 #[.pointer (some ⟨kb, 0, none⟩), .agg (tv (.two k a b) p)] w fun e w' => e = .returned (.bool (syn G (.two k a b))) ∧ Below w.heap.size w w'  := by
  obtain ⟨A, c, pa, pb, rfl, h1, h2, hR, hpa, hpb⟩ := id hp
  obtain ⟨b0, o0, rfl, hbl, _⟩ := hR.place (by rw [tcs_length]; simp)
  obtain ⟨Aa, ca, rfl⟩ := hpa.slice
  obtain ⟨Ab, cb, rfl⟩ := hpb.slice
  have hs1 : ((strB (Tm.knd (.two k a b))).toList == [115, 104, 97, 114, 101]) = false := by rw [strB_toList, beq_eq_false_iff_ne]; exact (word_ne2 (k := k) ht.2.1).1 h4
  have hs2 : ((strB (Tm.knd (.two k a b))).toList == [97, 116, 111, 109]) = false := by rw [strB_toList, beq_eq_false_iff_ne]; exact (word_ne2 (k := k) ht.2.1).2
  by_cases hm : (.two k a b) ∈ G
  · have hb : decide ((.two k a b) ∈ G) = true := decide_eq_true hm
    have HSY := Lib.hid (show syn G (.two k a b) = true from syn_mem hm)
    have HTP := Lib.hid hp
    have HKN := Lib.hid h
    have HHS := Lib.hid (fun W (hW : Below w.heap.size w W) => has_any W kb mb n N G (h.below hW) (.two k a b) ht (by omega) (.slice (some ⟨b0, o0, none⟩) 2 c) ⟨_, _, _, rfl⟩)
    have hte : ((strB (Tm.txt (.two k a b))).toList == []) = false := by rw [strB_toList, beq_eq_false_iff_ne]; exact txt_ne ht
    rw [hb] at HHS
    clear h ht hp hl
    go_enter Tryd.func15, Tryd.ntmps15
    go_upto_region 1 with (refine Rg.box_fresh rfl 31 _ rfl #[.string (strB (Tm.knd (.two k a b))), .string (strB (Tm.txt (.two k a b))), .slice (some ⟨b0, o0, none⟩) 2 c] rfl ?_; intro X hX hbX hnX; have HX := Lib.hid hX; have HBX := Lib.hid hbX; clear hX hbX hnX)
    have c1 := HX.out.cell 1 (v := .string (strB (Tm.txt (.two k a b)))) rfl
    go_wp2_with (first
      | (refine Cv.load_cells rfl 31 _ rfl w.heap.size 0 rfl #[.string (strB (Tm.knd (.two k a b))), .string (strB (Tm.txt (.two k a b))), .slice (some ⟨b0, o0, none⟩) 2 c] _ (fun j v hv => by rw [Nat.zero_add]; exact HX.out.cell j hv) Tryd.underlying31 rfl (by kernel_rfl) ?_; skip)
      | (go_at_call 34; refine (HHS.out _ HBX.out).mono ?_; rintro e W1 ⟨rfl, hb1⟩; skip; have HBW := Lib.hid (HBX.out.trans (Below.mono hb1 HBX.out.size)); have HXW := Lib.hid (HX.out.below hb1 HX.out.lt); clear hb1))
    go_ret
    exact ⟨by rw [HSY.out]; rfl, HBW.out⟩
  · have hb : decide ((.two k a b) ∈ G) = false := decide_eq_false hm
    have HTP := Lib.hid hp
    have HKN := Lib.hid h
    have HHS := Lib.hid (fun W (hW : Below w.heap.size w W) => has_any W kb mb n N G (h.below hW) (.two k a b) ht (by omega) (.slice (some ⟨b0, o0, none⟩) 2 c) ⟨_, _, _, rfl⟩)
    have hte : ((strB (Tm.txt (.two k a b))).toList == []) = false := by rw [strB_toList, beq_eq_false_iff_ne]; exact txt_ne ht
    have HCa := Lib.hid (show ∀ W, Below w.heap.size w W → ∀ j v, (#[.string (strB (Tm.knd a)), .string (strB (Tm.txt a)), .slice Aa (Tm.prt a).length ca] : Array Value)[j]? = some v → W.cell? ⟨b0, o0 + j, none⟩ = some v from fun W hW j v hv => by
      have h9 := rd_cell (hR.below hW) (0 + j) v (by rw [tcs_two]; rw [Nat.zero_add, List.getElem?_append_left (by have := (Array.getElem?_eq_some_iff.1 hv).1; simpa [tcl] using this)]; simpa [tcl] using hv)
      rw [Nat.zero_add] at h9; exact h9)
    have HCb := Lib.hid (show ∀ W, Below w.heap.size w W → ∀ j v, (#[.string (strB (Tm.knd b)), .string (strB (Tm.txt b)), .slice Ab (Tm.prt b).length cb] : Array Value)[j]? = some v → W.cell? ⟨b0, o0 + 3 + j, none⟩ = some v from fun W hW j v hv => by
      have h9 := rd_cell (hR.below hW) (3 + j) v (by rw [tcs_two]; rw [List.getElem?_append_right (by simp [tcl]), show 3 + j - (tcl (a, Value.slice Aa a.prt.length ca)).length = j by simp [tcl]]; simpa [tcl] using hv)
      rw [← Nat.add_assoc] at h9; exact h9)
    have HDa := Lib.hid (fun W (hW : Below w.heap.size w W) => iha W kb mb n N G _ (h.below hW) ht.2.2.1 (hpa.below hW) (by have h9 := hl; unfold Tm.txt at h9; simp at h9; omega))
    have HDb := Lib.hid (fun W (hW : Below w.heap.size w W) => ihb W kb mb n N G _ (h.below hW) ht.2.2.2.1 (hpb.below hW) (by have h9 := hl; unfold Tm.txt at h9; simp at h9; omega))
    clear hR hpa hpb
    rw [hb] at HHS
    clear h ht hp hl
    go_enter Tryd.func15, Tryd.ntmps15
    go_upto_region 1 with (refine Rg.box_fresh rfl 31 _ rfl #[.string (strB (Tm.knd (.two k a b))), .string (strB (Tm.txt (.two k a b))), .slice (some ⟨b0, o0, none⟩) 2 c] rfl ?_; intro X hX hbX hnX; have HX := Lib.hid hX; have HBX := Lib.hid hbX; clear hX hbX hnX)
    have c1 := HX.out.cell 1 (v := .string (strB (Tm.txt (.two k a b)))) rfl
    go_upto_region 5 with (first
      | (refine Cv.load_cells rfl 31 _ rfl w.heap.size 0 rfl #[.string (strB (Tm.knd (.two k a b))), .string (strB (Tm.txt (.two k a b))), .slice (some ⟨b0, o0, none⟩) 2 c] _ (fun j v hv => by rw [Nat.zero_add]; exact HX.out.cell j hv) Tryd.underlying31 rfl (by kernel_rfl) ?_; skip)
      | (go_at_call 34; refine (HHS.out _ HBX.out).mono ?_; rintro e W1 ⟨rfl, hb1⟩; skip; have HBW := Lib.hid (HBX.out.trans (Below.mono hb1 HBX.out.size)); have HXW := Lib.hid (HX.out.below hb1 HX.out.lt); clear hb1))
    clear c1 hte
    have x0 := HXW.out.cell 0 (v := .string (strB (Tm.knd (.two k a b)))) rfl
    have x2 := HXW.out.cell 2 (v := .slice (some ⟨b0, o0, none⟩) 2 c) rfl
    go_upto_region 9 with fail
    clear x0 x2
    obtain ⟨sa, hsa⟩ : ∃ x, syn G a = x := ⟨_, rfl⟩
    obtain ⟨sb, hsb⟩ : ∃ x, syn G b = x := ⟨_, rfl⟩
    have HSY := Lib.hid (show syn G (.two k a b) = (sa && sb) by unfold syn; rw [if_neg h4, hb, hsa, hsb]; rfl)
    rw [hsa] at HDa
    rw [hsb] at HDb
    refine wp_loop_rounds 3 ?_
    rw [rounds_succ]
    cases sa with
    | false =>
      go_wp2_with (first
          | (refine Cv.load_cells rfl 31 _ rfl b0 o0 rfl #[.string (strB (Tm.knd a)), .string (strB (Tm.txt a)), .slice Aa (Tm.prt a).length ca] _ (HCa.out _ HBW.out) Tryd.underlying31 rfl (by kernel_rfl) ?_; skip)
          | (refine Rg.store_fresh rfl 31 _ _ rfl #[.string (strB (Tm.knd a)), .string (strB (Tm.txt a)), .slice Aa (Tm.prt a).length ca] _ 31 rfl rfl (by kernel_rfl) rfl (by simp [Value.oneCell']) ?_; intro Y hY hbY; have HY := Lib.hid hY; have HBWx := Lib.hid (HBW.out.trans (Below.mono hbY HBW.out.size)); clear HBW; have HBW := HBWx; clear HBWx; have HXWx := Lib.hid (HXW.out.below hbY HXW.out.lt); clear HXW; have HXW := HXWx; clear HXWx; clear hY hbY)
          | (refine Cv.load_cells rfl 31 _ rfl _ 0 rfl #[.string (strB (Tm.knd a)), .string (strB (Tm.txt a)), .slice Aa (Tm.prt a).length ca] _ (fun j v hv => by rw [Nat.zero_add]; exact HY.out.cell j hv) Tryd.underlying31 rfl (by kernel_rfl) ?_; skip)
          | (go_at_call 15; refine (HDa.out _ HBW.out).mono ?_; rintro e W5 ⟨rfl, hb5⟩; skip; have HBWx := Lib.hid (HBW.out.trans (Below.mono hb5 HBW.out.size)); clear HBW; have HBW := HBWx; clear HBWx; have HXWx := Lib.hid (HXW.out.below hb5 HXW.out.lt); clear HXW; have HXW := HXWx; clear HXWx; clear hb5 HY))
      go_ret
      exact ⟨by rw [HSY.out]; rfl, HBW.out⟩
    | true =>
      go_wp2_with (first
          | (refine Cv.load_cells rfl 31 _ rfl b0 o0 rfl #[.string (strB (Tm.knd a)), .string (strB (Tm.txt a)), .slice Aa (Tm.prt a).length ca] _ (HCa.out _ HBW.out) Tryd.underlying31 rfl (by kernel_rfl) ?_; skip)
          | (refine Rg.store_fresh rfl 31 _ _ rfl #[.string (strB (Tm.knd a)), .string (strB (Tm.txt a)), .slice Aa (Tm.prt a).length ca] _ 31 rfl rfl (by kernel_rfl) rfl (by simp [Value.oneCell']) ?_; intro Y hY hbY; have HY := Lib.hid hY; have HBWx := Lib.hid (HBW.out.trans (Below.mono hbY HBW.out.size)); clear HBW; have HBW := HBWx; clear HBWx; have HXWx := Lib.hid (HXW.out.below hbY HXW.out.lt); clear HXW; have HXW := HXWx; clear HXWx; clear hY hbY)
          | (refine Cv.load_cells rfl 31 _ rfl _ 0 rfl #[.string (strB (Tm.knd a)), .string (strB (Tm.txt a)), .slice Aa (Tm.prt a).length ca] _ (fun j v hv => by rw [Nat.zero_add]; exact HY.out.cell j hv) Tryd.underlying31 rfl (by kernel_rfl) ?_; skip)
          | (go_at_call 15; refine (HDa.out _ HBW.out).mono ?_; rintro e W5 ⟨rfl, hb5⟩; skip; have HBWx := Lib.hid (HBW.out.trans (Below.mono hb5 HBW.out.size)); clear HBW; have HBW := HBWx; clear HBWx; have HXWx := Lib.hid (HXW.out.below hb5 HXW.out.lt); clear HXW; have HXW := HXWx; clear HXWx; clear hb5 HY))
      rw [rounds_succ]
      cases sb with
      | false =>
        go_wp2_with (first
            | (refine Cv.load_cells rfl 31 _ rfl b0 (o0 + 3) rfl #[.string (strB (Tm.knd b)), .string (strB (Tm.txt b)), .slice Ab (Tm.prt b).length cb] _ (HCb.out _ HBW.out) Tryd.underlying31 rfl (by kernel_rfl) ?_; skip)
            | (refine Rg.store_fresh rfl 31 _ _ rfl #[.string (strB (Tm.knd b)), .string (strB (Tm.txt b)), .slice Ab (Tm.prt b).length cb] _ 31 rfl rfl (by kernel_rfl) rfl (by simp [Value.oneCell']) ?_; intro Y hY hbY; have HY := Lib.hid hY; have HBWx := Lib.hid (HBW.out.trans (Below.mono hbY HBW.out.size)); clear HBW; have HBW := HBWx; clear HBWx; have HXWx := Lib.hid (HXW.out.below hbY HXW.out.lt); clear HXW; have HXW := HXWx; clear HXWx; clear hY hbY)
            | (refine Cv.load_cells rfl 31 _ rfl _ 0 rfl #[.string (strB (Tm.knd b)), .string (strB (Tm.txt b)), .slice Ab (Tm.prt b).length cb] _ (fun j v hv => by rw [Nat.zero_add]; exact HY.out.cell j hv) Tryd.underlying31 rfl (by kernel_rfl) ?_; skip)
            | (go_at_call 15; refine (HDb.out _ HBW.out).mono ?_; rintro e W5 ⟨rfl, hb5⟩; skip; have HBWx := Lib.hid (HBW.out.trans (Below.mono hb5 HBW.out.size)); clear HBW; have HBW := HBWx; clear HBWx; have HXWx := Lib.hid (HXW.out.below hb5 HXW.out.lt); clear HXW; have HXW := HXWx; clear HXWx; clear hb5 HY))
        go_ret
        exact ⟨by rw [HSY.out]; rfl, HBW.out⟩
      | true =>
        go_wp2_with (first
            | (refine Cv.load_cells rfl 31 _ rfl b0 (o0 + 3) rfl #[.string (strB (Tm.knd b)), .string (strB (Tm.txt b)), .slice Ab (Tm.prt b).length cb] _ (HCb.out _ HBW.out) Tryd.underlying31 rfl (by kernel_rfl) ?_; skip)
            | (refine Rg.store_fresh rfl 31 _ _ rfl #[.string (strB (Tm.knd b)), .string (strB (Tm.txt b)), .slice Ab (Tm.prt b).length cb] _ 31 rfl rfl (by kernel_rfl) rfl (by simp [Value.oneCell']) ?_; intro Y hY hbY; have HY := Lib.hid hY; have HBWx := Lib.hid (HBW.out.trans (Below.mono hbY HBW.out.size)); clear HBW; have HBW := HBWx; clear HBWx; have HXWx := Lib.hid (HXW.out.below hbY HXW.out.lt); clear HXW; have HXW := HXWx; clear HXWx; clear hY hbY)
            | (refine Cv.load_cells rfl 31 _ rfl _ 0 rfl #[.string (strB (Tm.knd b)), .string (strB (Tm.txt b)), .slice Ab (Tm.prt b).length cb] _ (fun j v hv => by rw [Nat.zero_add]; exact HY.out.cell j hv) Tryd.underlying31 rfl (by kernel_rfl) ?_; skip)
            | (go_at_call 15; refine (HDb.out _ HBW.out).mono ?_; rintro e W5 ⟨rfl, hb5⟩; skip; have HBWx := Lib.hid (HBW.out.trans (Below.mono hb5 HBW.out.size)); clear HBW; have HBW := HBWx; clear HBWx; have HXWx := Lib.hid (HXW.out.below hb5 HXW.out.lt); clear HXW; have HXW := HXWx; clear HXWx; clear hb5 HY))
        rw [rounds_succ]
        go_upto_region 14 with fail
        have x0 := HXW.out.cell 0 (v := .string (strB (Tm.knd (.two k a b)))) rfl
        go_wp2
        go_ret
        exact ⟨by rw [HSY.out]; rfl, HBW.out⟩
end Go.Proofs.YtfcemnebhapidaaDoor.Te
