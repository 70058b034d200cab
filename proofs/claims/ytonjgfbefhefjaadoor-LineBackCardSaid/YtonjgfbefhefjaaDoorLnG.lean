/- Line: the reference's words. -/
import Derived.Test.YtonjgfbefhefjaaDoorLnF
set_option linter.unusedVariables false
set_option linter.unusedSimpArgs false
namespace Go.Proofs.YtonjgfbefhefjaaDoor.Ln
open Go Go.RowKit Go.Proofs.YtonjgfbefhefjaaDoor.Ow
def encS (x : List UInt8) : Value := .string (strB x)
theorem snocS (out : List (List UInt8)) (x : List UInt8) : out.map encS ++ [Value.string (strB x)] = (out ++ [x]).map encS := by rw [List.map_append]; rfl
theorem encS_one (l : List (List UInt8)) : ∀ u ∈ l.map encS, u.oneCell' = true := by
  intro u hu
  obtain ⟨x, _, rfl⟩ := List.mem_map.1 hu
  rfl
/-- a slice of its own that is not empty: where it lies, and what a store does -/
theorem owns_at {w : World} {B : Nat} {E : TypeId} {v : Value} {xs : List Value} (h : Owns w B E v xs) (hn : xs ≠ []) :
    ∃ g c, v = .slice (some ⟨g, 0, none⟩) xs.length c ∧ B ≤ g ∧ g < w.heap.size ∧ (∀ j x, xs[j]? = some x → w.cell? ⟨g, j, none⟩ = some x ∧ w.frozen? ⟨g, j, none⟩ = false) ∧
      ∀ W' : World, Below w.heap.size w W' → ∀ (j : Nat) (y : Value), j < xs.length → Owns (W'.setCell ⟨g, j, none⟩ y) B E v (xs.set j y) := by
  obtain ⟨hl, h⟩ := h
  rcases h with ⟨_, h0⟩ | ⟨g, cap, cur, hv, hb, hg, hc, hm, hsz, htk⟩
  · exact absurd (List.eq_nil_of_length_eq_zero h0) hn
  · have hlt := (Array.getElem?_eq_some_iff.1 hg).1
    refine ⟨g, cap, hv, hb, hlt, fun j x hx => ⟨?_, frozen_of_row w g j _ _ hg⟩, fun W' hbw j y hj => ?_⟩
    · rw [cell_of_row w g j _ _ _ hg]
      have := hx
      rw [← htk, List.getElem?_take] at this
      split at this
      · rw [← this, Array.getElem?_toList]
      · cases this
    · have hg2 : W'.heap[g]? = some (.cells cur E (0, 0)) := by rw [hbw.block g hlt]; exact hg
      refine ⟨by rw [List.length_set]; exact hl, .inr ⟨g, cap, cur.setIfInBounds j y, by rw [List.length_set]; exact hv, hb, ?_, by rw [List.length_set]; exact hc, hm, by rw [Array.size_setIfInBounds]; exact hsz, ?_⟩⟩
      · rw [heap_setCell_same W' g j _ _ _ hg2]
      · rw [List.length_set, Array.toList_setIfInBounds, List.take_set, htk]
theorem sp_take {l : List UInt8} {k : Nat} {c : UInt8} (h : l[k]? = some c) : sp (l.take (k + 1)) = if c = 32 then sp (l.take k) ++ [[]] else (sp (l.take k)).dropLast ++ [(sp (l.take k)).getLast (sp_ne _) ++ [c]] := by
  have e : l.take (k + 1) = l.take k ++ [c] := by rw [List.take_add_one, h]; rfl
  simp only [e]
  exact sp_snoc _ _
theorem set_last {α : Type} (l : List α) (h : l ≠ []) (y : α) (m : Nat) (hm : l.length = m + 1) : l.set m y = l.dropLast ++ [y] := by
  obtain ⟨a, x, rfl⟩ : ∃ a x, l = a ++ [x] := ⟨_, _, (List.dropLast_concat_getLast h).symm⟩
  have : a.length = m := by simpa using hm
  subst this
  simp
theorem get_last {α : Type} (l : List α) (h : l ≠ []) (m : Nat) (hm : l.length = m + 1) : l[m]? = some (l.getLast h) := by
  rw [List.getLast_eq_getElem, List.getElem?_eq_getElem (by omega)]
  congr 1
  congr 1
  omega
theorem ext_one (S : ByteArray) (k : Nat) (h : k < S.size) : S.extract k (k + 1) = strB [S[k]] := by
  apply list_inj
  have h2 := get_list S k h
  rw [ByteArray.data_extract, Array.toList_extract, List.extract_eq_take_drop, show k + 1 - k = 1 by omega]
  obtain ⟨hk, e⟩ := List.getElem?_eq_some_iff.1 h2
  rw [List.drop_eq_getElem_cons hk, e]; rfl
theorem one_slice (S : ByteArray) (k : Nat) (h : k < S.size) (W : World) : (Instr.slice 9 (.string S) (some (.int .i64 (k : Int))) (some (.int .i64 ((k : Int) + 1))) none).run Tryd.prog W = .ok (.string (strB [S[k]])) W := by
  rw [run_slice_string (P := Tryd.prog) (w := W) 9 S .i64 .i64 (k : Int) ((k : Int) + 1) Tryd.underlying9 (by omega) (by omega) (by omega)]
  rw [show ((k : Int)).toNat = k by omega, show ((k : Int) + 1).toNat = k + 1 by omega, ext_one S k h]
set_option maxRecDepth 20000 in
set_option maxHeartbeats 4000000 in
theorem Words_any (S : ByteArray) (w : World) (hs : S.size ≤ 100000) :
    Calls Tryd.prog 21 #[.string S] w fun e w' => ∃ v, e = .returned v ∧ Owns w' w.heap.size 9 v ((sp S.data.toList).map encS) ∧ Below w.heap.size w w' := by
  have HL := Lib.hid (show S.data.toList.length = S.size from Array.length_toList)
  have HON := Lib.hid (show Owns (w.alloc (.cells #[.string ⟨#[]⟩] 9)) w.heap.size 9 (.slice (some ⟨w.heap.size, 0, none⟩) 1 1) ((sp (S.data.toList.take 0)).map encS) from Owns.new w w.heap.size 9 [.string ⟨#[]⟩] (Nat.le_refl _) (by decide))
  have HBA := Lib.hid (show Below w.heap.size w (w.alloc (.cells #[.string ⟨#[]⟩] 9)) from (Below.refl _ _).alloc (Nat.le_refl _) _)
  go_enter Tryd.func21, Tryd.ntmps21
  go_wp2
  go_loopw [3, 4] (fun v i wr => ∃ k : Nat, k ≤ S.size ∧ i = .int .i64 k ∧ Owns wr w.heap.size 9 v ((sp (S.data.toList.take k)).map encS) ∧ Below w.heap.size w wr) (fun _ i _ => S.size - (intOf i).toNat)
  case atStart => exact ⟨0, Nat.zero_le _, rfl, HON.out, HBA.out⟩
  case round =>
    obtain ⟨k, hk, rfl, hO, hB⟩ := hrel
    have HO := Lib.hid hO
    have HB := Lib.hid hB
    have HSB := Lib.hid hB.size
    clear hO hB HON HBA
    by_cases hlt : k < S.size
    · have hik : (k : Int) < S.size := by omega
      have hdl : decide ((k : Int) < (S.size : Int)) = true := by rw [decide_eq_true_iff]; omega
      have HX := Lib.hid (get_list S k hlt)
      have HN := Lib.hid (sp_take HX.out)
      have HLE := Lib.hid (show ((sp (S.data.toList.take k)).map encS).length ≤ 100001 by
        have h1 := sp_len (S.data.toList.take k)
        rw [List.length_take] at h1
        rw [List.length_map]
        omega)
      by_cases hc : S[k] = 32
      · have e1 : ((S[k].toNat : Int) == 32) = true := by rw [hc]; rfl
        have HN2 := Lib.hid (show sp (S.data.toList.take (k + 1)) = sp (S.data.toList.take k) ++ [[]] by rw [HN.out, if_pos hc])
        clear hc HN
        go_wp2_with (refine app1 rfl _ _ 24 rfl (E := 9) (z := .string ⟨#[]⟩) (by' := 16) rfl rfl rfl (by decide) HO.out rfl rfl rfl (by have h1 := HLE.out; omega) HSB.out ?_; rintro v6 w6 h2 h3 h4; skip; have HO6 := Lib.hid h2; have HB6 := Lib.hid (own_grown HB.out HO.out h3); clear h2 h3 h4)
        go_roundw
        case rel =>
          have REL := Lib.hid (show ∃ k' : Nat, k' ≤ S.size ∧ Value.int .i64 ((k : Int) + 1) = .int .i64 k' ∧ Owns w6 w.heap.size 9 v6 ((sp (S.data.toList.take k')).map encS) ∧ Below w.heap.size w w6 from ⟨k + 1, by omega, by go_num, by rw [HN2.out, ← snocS]; exact HO6.out, HB6.out⟩)
          first
            | exact REL.out
            | ((repeat apply Exists.intro); refine ⟨?_, rfl⟩; exact REL.out)
        case measure => (first | (simp [intOf]; done) | (simp [intOf]; omega))
      · have e1 : ((S[k].toNat : Int) == 32) = false := by
          rw [beq_eq_false_iff_ne]; intro e; exact hc (UInt8.toNat_inj.1 (by show S[k].toNat = 32; omega))
        have hne : sp (S.data.toList.take k) ≠ [] := sp_ne _
        obtain ⟨m, hm⟩ : ∃ m, (sp (S.data.toList.take k)).length = m + 1 := ⟨(sp (S.data.toList.take k)).length - 1, by have := List.length_pos_iff.2 hne; omega⟩
        obtain ⟨y, hy⟩ : ∃ y, y = (sp (S.data.toList.take k)).getLast hne := ⟨_, rfl⟩
        have HN2 := Lib.hid (show (sp (S.data.toList.take (k + 1))).map encS = ((sp (S.data.toList.take k)).map encS).set m (encS (y ++ [S[k]])) by
          rw [HN.out, if_neg hc, ← List.map_set, set_last _ hne _ m hm, hy])
        have hgl : ((sp (S.data.toList.take k)).map encS)[m]? = some (encS y) := by
          rw [List.getElem?_map, get_last _ hne m hm, hy]; rfl
        have hys : y.length ≤ 100000 := by
          have h1 := sp_size (S.data.toList.take k) y (by rw [hy]; exact List.getLast_mem hne)
          rw [List.length_take] at h1
          omega
        have hm0 : m ≤ 100001 := by have := HLE.out; rw [List.length_map, hm] at this; omega
        obtain ⟨g, c, hv, hBg, hgs, hcl, hset⟩ := owns_at HO.out (by simpa using hne)
        rw [List.length_map, hm] at hv
        obtain ⟨hcell, hfz⟩ := hcl m _ hgl
        have HSET := Lib.hid (fun W' hb => hset W' hb m (encS (y ++ [S[k]])) (by rw [List.length_map, hm]; omega))
        have HCA := Lib.hid (show strB y ++ strB [S[k]] = strB (y ++ [S[k]]) by rw [strB_append])
        have hcell2 : wr.cell? ⟨g, m, none⟩ = some (.string (strB y)) := hcell
        have hsy : (strB y).size ≤ 100000 := by rw [strB_size]; exact hys
        have HBG := Lib.hid hBg
        subst hv
        clear hc HN hne hm hy hgl hcl hset hcell HO hys hBg
        have hsl := one_slice S k hlt
        have hs1 : (strB [S[k]]).size = 1 := rfl
        have C1 := fun s : Rg.Later wr.heap.size wr => s.cell g m hgs
        have F1 := fun s : Rg.Later wr.heap.size wr => s.frozen g m hgs
        go_wp2_with fail
        refine Rg.wp_region_later wr.heap.size 13 (by kernel_rfl) (by kernel_rfl) ?_
        simp only [List.take_succ_cons, List.take_zero, List.drop_succ_cons, List.drop_zero]
        repeat (go_big_quiet_step (fail))
        refine wpQuiet_nil ?_
        rintro _ ⟨s9, rfl⟩
        have c1 : s9.val.cell? ⟨g, m, none⟩ = some (.string (strB y)) := by rw [C1]; exact hcell2
        have f1 : s9.val.frozen? ⟨g, m, none⟩ = false := by rw [F1]; exact hfz
        have HS9 := Lib.hid s9.is
        clear C1 F1 hsl
        go_wp2_with fail
        go_roundw
        case rel =>
          have REL := Lib.hid (show ∃ k' : Nat, k' ≤ S.size ∧ Value.int .i64 ((k : Int) + 1) = .int .i64 k' ∧ Owns (s9.val.setCell ⟨g, m, none⟩ (.string (strB y ++ strB [S[k]]))) w.heap.size 9 (.slice (some ⟨g, 0, none⟩) (m + 1) c) ((sp (S.data.toList.take k')).map encS) ∧ Below w.heap.size w (s9.val.setCell ⟨g, m, none⟩ (.string (strB y ++ strB [S[k]]))) from ⟨k + 1, by omega, by go_num, by rw [HN2.out, HCA.out]; exact HSET.out s9.val HS9.out, (HB.out.trans (Below.mono HS9.out HB.out.size)).setCell (p := ⟨g, m, none⟩) HBG.out _⟩)
          first
            | exact REL.out
            | ((repeat apply Exists.intro); refine ⟨?_, rfl⟩; exact REL.out)
        case measure => (first | (simp [intOf]; done) | (simp [intOf]; omega))
    · have hks : k = S.size := by omega
      have HV := Lib.hid (show Owns wr w.heap.size 9 u3 ((sp S.data.toList).map encS) by
        have := HO.out
        rw [hks, ← HL.out, List.take_length] at this
        exact this)
      go_wp2_with fail
      go_ret
      exact ⟨_, rfl, HV.out, HB.out⟩
end Go.Proofs.YtonjgfbefhefjaaDoor.Ln
