/- build. -/
import Derived.Test.YtfcemnebhapidaaDoorTmBd2
set_option linter.unusedVariables false
set_option linter.unusedSimpArgs false
namespace Go.Proofs.YtfcemnebhapidaaDoor.Te
open Go.RowKit Go.Proofs.YtfcemnebhapidaaDoor.Ow
theorem tcs_at {l : List (Tm × Value)} {j : Nat} {x : Tm × Value} (hx : l[j]? = some x) : ∀ i v, (tcl x)[i]? = some v → (tcs l)[j * 3 + i]? = some v := by
  intro i v hv
  have hj := (List.getElem?_eq_some_iff.1 hx).1
  have e : l = l.take j ++ [x] ++ l.drop (j + 1) := by
    have := List.take_append_drop j l
    rw [List.drop_eq_getElem_cons hj] at this
    rw [← (List.getElem?_eq_some_iff.1 hx).2]
    simp
  have hl : (tcs (l.take j)).length = j * 3 := by
    rw [tcs_length, List.length_take, Nat.min_eq_left (by omega)]
  rw [e, tcs_append, tcs_append, tcs_one, List.append_assoc, List.getElem?_append_right (by omega), hl]
  have hi : i < (tcl x).length := (List.getElem?_eq_some_iff.1 hv).1
  rw [show j * 3 + i - j * 3 = i by omega, List.getElem?_append_left hi]
  exact hv
theorem len_two {α : Type} {l : List α} (h : l.length = 2) : ∃ p q, l = [p, q] := by
  match l, h with
  | [p, q], _ => exact ⟨p, q, rfl⟩
theorem rd_of_range {w : World} {g : Nat} {xs : List Value} (h : w.rangeAt g 0 xs) : Rd w (some ⟨g, 0, none⟩) xs := fun j x hx => ⟨g, 0, rfl, World.block_lt_of_cell? w _ (h j x hx), h j x hx⟩
theorem concat_txt (K J : List UInt8) : strB K ++ ⟨#[40]⟩ ++ strB J ++ ⟨#[41]⟩ = strB (K ++ 40 :: (J ++ [41])) := by
  apply ByteArray.ext
  apply Array.toList_inj.1
  simp [strB]
theorem word_len : ∀ k, (word k).length ≤ 10
  | 0 => by decide
  | 1 => by decide
  | 2 => by decide
  | 3 => by decide
  | 4 => by decide
  | 5 => by decide
  | n + 6 => by show ([115, 101, 97, 108] : List UInt8).length ≤ 10; decide
theorem owns_form {w : World} {B : Nat} {E : TypeId} {v : Value} {xs : List Value} (h : Owns w B E v xs) (hx : xs ≠ []) : ∃ g c, v = .slice (some ⟨g, 0, none⟩) xs.length c ∧ xs.length ≤ c ∧ c ≤ maxLen ∧ B ≤ g ∧ g < w.heap.size ∧ Rd w (some ⟨g, 0, none⟩) xs := by
  have h0 : w.ownsRow B E 1 v xs.length xs := h
  rcases h0.2 with ⟨hv, hn⟩ | ⟨g, cap, cur, hv, hB, hg, hc, hm, _⟩
  · exact absurd (List.eq_nil_of_length_eq_zero hn) hx
  · refine ⟨g, cap, hv, hc, hm, hB, (Array.getElem?_eq_some_iff.1 hg).1, fun j x hj => ⟨g, 0, rfl, (Array.getElem?_eq_some_iff.1 hg).1, ?_⟩⟩
    have := World.ownsRow.cells h0 (g := g) (by rw [hv]; rfl) j x hj
    have hadd : (⟨g, 0, none⟩ : Addr).add j = ⟨g, j, none⟩ := by unfold Addr.add; split <;> simp_all
    rw [hadd] at this
    rw [Nat.zero_add]; exact this
set_option maxRecDepth 20000 in
set_option maxHeartbeats 8000000 in
theorem build_one {Q : Tm → Value → Prop} (hQ : ∀ t p, Q t p → p.oneCell' = true) (w : World) (v : Value) (a : Tm) (k : Nat) (hk : k < 3) (h : TS Q w v [a]) (ha : a.txt.length ≤ 5000) :
    Calls Tryd.prog 35 #[.string (strB (word k)), v] w fun e w' => ∃ g c pa, e = .returned (.agg (tv (.one k a) (.slice (some ⟨g, 0, none⟩) 1 c))) ∧ w.heap.size ≤ g ∧ g < w'.heap.size ∧ 1 ≤ c ∧ c ≤ maxLen ∧ w'.rangeAt g 0 (tcs [(a, pa)]) ∧ Q a pa ∧ Below w.heap.size w w' := by
  have HCL := Lib.hid (show ∀ W, Below w.heap.size w W → Calls Tryd.prog 41 #[v] W fun e w' => ∃ v' ps, e = .returned v' ∧ ps.length = [a].length ∧ w'.ownsRow W.heap.size 31 3 v' [a].length (tcs ([a].zip ps)) ∧ (∀ (j : Nat) t p, [a][j]? = some t → ps[j]? = some p → Q t p) ∧ Below W.heap.size W w' from fun W hW => TClone_any hQ W v [a] (h.below hW) (by simp))
  obtain ⟨A, c0, _, rfl, _⟩ := id h
  have HKL := Lib.hid (show (word k).length ≤ 10 from word_len k)
  have hsh : ((strB (word k)).toList == [115, 104, 97, 114, 101]) = false := by rw [strB_toList, beq_eq_false_iff_ne]; intro e; have := congrArg numW e; rw [numW_word k (by omega)] at this; rw [show numW [115, 104, 97, 114, 101] = 4 by decide] at this; omega
  have HH := Lib.hid h
  clear h
  generalize hn : [a].length = n at *
  have HNE := Lib.hid hn
  have hn1 : 0 < n := by rw [← hn]; simp
  have hn2 : n ≤ 2 := by rw [← hn]; simp
  clear hn
  go_enter Tryd.func35, Tryd.ntmps35
  have HZA := Lib.hid (Rg.Blk.new w #[.string ⟨#[]⟩, .string ⟨#[]⟩, .slice none 0 0] 31)
  have HBA := Lib.hid (show Below w.heap.size w (w.alloc (.cells #[.string ⟨#[]⟩, .string ⟨#[]⟩, .slice none 0 0] 31)) from (Below.refl _ _).alloc (Nat.le_refl _) _)
  go_upto_region 2 with (go_at_call 41; refine (HCL.out _ HBA.out).mono ?_; rintro e W0 ⟨v1, ps, rfl, hps, ho, htp, hb⟩; obtain ⟨g, c, rfl, hnc, hcm, hBg, hgl0⟩ := own_form ho (by have := HNE.out; simp at this; omega); skip; have HOR := Lib.hid (own_range ho); have HPS := Lib.hid hps; have HT0 := Lib.hid htp; have HBA0 := Lib.hid hb; have HBG := Lib.hid hBg; have HB0 := Lib.hid (HBA.out.trans (Below.mono hb HBA.out.size)); have HZ0 := Lib.hid (HZA.out.below hb HZA.out.lt); have HGW := Lib.hid (show w.heap.size < g by simp at hBg; omega); clear hb ho htp hps hBg)
  obtain ⟨pa, rfl⟩ : ∃ p, ps = [p] := List.length_eq_one_iff.1 (by rw [HPS.out, ← HNE.out]; rfl)
  have HTPA := Lib.hid (HT0.out 0 a pa rfl rfl)
  go_quiet (fail)
  go_upto_region 4 with fail
  clear hsh
  refine wp_name (fun W1 hW1 => ?_)
  have hbW : Below W0.heap.size W0 W1 := by rw [hW1]; first | exact HWX.out | exact bdN (Below.refl _ _) _ | exact Below.refl _ _
  clear hW1
  have HRW0 := Lib.hid (rangeAt_below HOR.out.1 hbW)
  have HRW := Lib.hid (show W1.rangeAt g 0 (tcs [(a, pa)]) from HRW0.out)
  have HZ1 := Lib.hid (HZ0.out.below hbW HZ0.out.lt)
  have HB1 := Lib.hid (HB0.out.trans (Below.mono hbW HB0.out.size))
  have HTP := Lib.hid (show ∀ x ∈ [(a, pa)], Q x.1 x.2 from fun x hx => by
    simp at hx
    subst hx
    exact HTPA.out)
  clear hbW
  have HZ0 := HZ1
  obtain ⟨zl, hzl⟩ : ∃ zl, zl = [(a, pa)] := ⟨_, rfl⟩
  rw [← hzl] at HRW HTP
  have HZL := Lib.hid (show zl.length = n by rw [hzl]; exact HNE.out)
  obtain ⟨J, hJ⟩ : ∃ J, Lib.join (zl.map fun x => x.1.txt) [44] = J := ⟨_, rfl⟩
  have HJN := Lib.hid hJ
  have hJ2 : J = a.txt := by rw [← hJ, hzl]; simp [Lib.join, List.intercalate]
  have HJ2 := Lib.hid hJ2
  have HZE := Lib.hid hzl
  have HJL := Lib.hid (show J.length ≤ 20000 by rw [hJ2]; first | omega | (simp; omega))
  clear hJ hJ2 hzl
  have HW1 := Lib.hid (show w.heap.size < W1.heap.size from Nat.lt_of_lt_of_le HGW.out (Nat.le_of_lt (World.block_lt_of_cell? W1 _ (HRW.out 0 _ (List.getElem?_eq_getElem (show 0 < (tcs zl).length by rw [tcs_length, HZL.out]; omega))))))
  have hgl : g < W1.heap.size := World.block_lt_of_cell? W1 _ (HRW.out 0 _ (List.getElem?_eq_getElem (show 0 < (tcs zl).length by rw [tcs_length, HZL.out]; omega)))
  go_upto_region 6 with fail
  go_loopw [27, 5] (fun i u wr => ∃ j : Nat, j ≤ n ∧ i = .int .i64 j ∧ Owns wr W1.heap.size 9 u ((zl.take j).map fun x => .string (strB x.1.txt)) ∧ Below W1.heap.size W1 wr) (fun i _ _ => n - (intOf i).toNat)
  case atStart => exact ⟨0, Nat.zero_le _, rfl, Owns.nil _ _ _, Below.refl _ _⟩
  case round =>
    obtain ⟨j, hj, rfl, ho, hb⟩ := hrel
    have HO := Lib.hid ho
    have HW := Lib.hid hb
    clear ho hb
    by_cases hlt : j < n
    · have hd : decide (j < n) = true := by simp; exact hlt
      have hik : (j : Int) < n := by omega
      have hik0 : (0 : Int) ≤ j := by omega
      obtain ⟨x, hx⟩ : ∃ x, zl[j]? = some x := ⟨_, List.getElem?_eq_getElem (by rw [HZL.out]; exact hlt)⟩
      have HX := Lib.hid hx
      have HC := Lib.hid (show ∀ i v, (tcl x).toArray[i]? = some v → wr.cell? ⟨g, j * 3 + i, none⟩ = some v from fun i v hv => by
        have := HRW.out (j * 3 + i) v (tcs_at hx i v (by simpa using hv))
        rw [Nat.zero_add] at this
        exact (HW.out.cell (p := ⟨g, j * 3 + i, none⟩) hgl).trans this)
      have HON := Lib.hid (tcl_one (hQ _ _ (HTP.out x (List.mem_of_getElem? hx))))
      clear hx
      go_upto_region 8 with (first
        | (refine Cv.load_cells rfl 31 _ rfl g (j * 3) rfl (tcl x).toArray _ HC.out Tryd.underlying31 rfl (by kernel_rfl) ?_; skip)
        | (refine Rg.store_fresh rfl 31 _ _ rfl (tcl x).toArray _ 31 rfl rfl (by kernel_rfl) rfl HON.out ?_; intro Z hZ hbZ; have HZ := Lib.hid hZ; have HBZ := Lib.hid hbZ; clear hZ hbZ))
      have HWZ := Lib.hid (HW.out.trans (HBZ.out.mono HW.out.size))
      have HOZ := Lib.hid (HO.out.below HBZ.out)
      have c1 := HZ.out.cell 1 (v := .string (strB x.1.txt)) rfl
      have HOY := Lib.hid (HOZ.out.alloc (.cells #[.string (strB x.1.txt)] 9))
      have HBY := Lib.hid (show Below W1.heap.size W1 (Z.alloc (.cells #[.string (strB x.1.txt)] 9)) from HWZ.out.alloc HWZ.out.size _)
      have HRY := Lib.hid (Rd.one Z 9 (.string (strB x.1.txt)))
      have HSZ := Lib.hid (show (((zl.take j).map fun (x : Tm × Value) => Value.string (strB x.1.txt)).length + 1) * 16 ≤ 140737488355328 by rw [List.length_map, List.length_take]; omega)
      go_wp2_with (refine app rfl _ _ 22 rfl Tryd.underlying22 infoS rfl (by decide) HOY.out rfl rfl (show [Value.string (strB x.1.txt)].length = 1 from rfl) HRY.out (by intro u hu; simp at hu; subst hu; rfl) HSZ.out HBY.out.size ?_; intro v' w' h2 h3 h4; have H2 := Lib.hid h2; have HBF := Lib.hid (HBY.out.grown h3 HBY.out.size (fun k hk => (HOY.out.lt k hk).1)); clear h2 h3 h4)
      go_roundw
      case rel =>
        have hj3 : j < zl.length := by rw [HZL.out]; exact hlt
        have HF : Owns w' W1.heap.size 9 v' ((zl.take (j + 1)).map fun x => .string (strB x.1.txt)) := by
          rw [List.take_succ_eq_append_getElem hj3, (List.getElem?_eq_some_iff.1 HX.out).2, List.map_append]; exact H2.out
        first
          | exact ⟨j + 1, by omega, by go_num, HF, HBF.out⟩
          | ((repeat apply Exists.intro); refine ⟨?_, rfl⟩; exact ⟨j + 1, by omega, by go_num, HF, HBF.out⟩)
      case measure => (first | (simp [intOf]; done) | (simp [intOf]; omega))
    · obtain rfl : j = n := by omega
      have hd : decide (j < j) = false := by simp
      have ho := HO.out
      rw [List.take_of_length_le (by rw [HZL.out]; exact Nat.le_refl _)] at ho
      obtain ⟨gw, cw, hu, hcw, hcwm, hgw, hglt, hrd⟩ := owns_form ho (by intro e; have := congrArg List.length e; rw [List.length_map, HZL.out] at this; simp at this <;> omega)
      rw [List.length_map, HZL.out] at hu hcw
      subst hu
      have HJ := Lib.hid (show Calls Tryd.prog 47 #[.slice (some ⟨gw, 0, none⟩) j cw, .string ⟨#[44]⟩] wr fun e w' => e = .returned (.string (strB J)) ∧ Below wr.heap.size wr w' by
        have := Tryd.strings_Join gw 0 cw (zl.map fun x => strB x.1.txt) ⟨#[44]⟩ wr (fun i y hy => by
          rw [List.getElem?_map, Option.map_eq_some_iff] at hy
          obtain ⟨x, hx, rfl⟩ := hy
          obtain ⟨b', o', e, _, hc⟩ := hrd i (.string (strB x.1.txt)) (by rw [List.getElem?_map, hx]; rfl)
          injection e with e
          injection e with e1 e2
          subst e1 e2
          exact hc) hglt (by rw [List.length_map, HZL.out] <;> omega) (by rw [List.length_map, HZL.out]; exact hcw) (by rw [List.map_map]; rw [show (zl.map ((fun y : ByteArray => y.data.toList) ∘ fun x : Tm × Value => strB x.1.txt)) = zl.map fun x => x.1.txt from rfl, HJN.out]; have := HJL.out; omega)
        rw [List.map_map, show (zl.map ((fun y : ByteArray => y.data.toList) ∘ fun x : Tm × Value => strB x.1.txt)) = zl.map fun x => x.1.txt from rfl] at this
        rw [show ((⟨#[44]⟩ : ByteArray).data.toList) = [44] from rfl, HJN.out, List.length_map, HZL.out] at this
        exact this)
      have hK : (strB (word k)).size ≤ 10 := by rw [strB_size]; exact HKL.out
      have hJs : (strB J).size ≤ 20000 := by rw [strB_size]; exact HJL.out
      have HZW := Lib.hid (HZ0.out.below HW.out (Nat.lt_of_lt_of_le HZ0.out.lt (Nat.le_refl _)))
      have HBW := Lib.hid (HB1.out.trans (HW.out.mono HB1.out.size))
      clear ho hrd
      go_wp2_with (first
        | (go_at_call 47; refine HJ.out.mono ?_; rintro e wj ⟨rfl, hbj⟩; skip; have HJB := Lib.hid hbj; have HZJ := Lib.hid (HZW.out.below hbj HZW.out.lt); have HBJ := Lib.hid (HBW.out.trans (hbj.mono HBW.out.size)); clear hbj)
        | (refine Cv.store_blk rfl 31 _ _ rfl w.heap.size #[.string (strB (word k)), .string (strB (word k) ++ ⟨#[40]⟩ ++ strB J ++ ⟨#[41]⟩), .slice (some ⟨g, 0, none⟩) j c] #[.string ⟨#[]⟩, .string ⟨#[]⟩, .slice none 0 0] 31 rfl rfl HZJ.out (by kernel_rfl) rfl (by simp [Value.oneCell']) ?_; intro V hV hgV; have HV := Lib.hid hV; have HGV := Lib.hid hgV; clear hV hgV))
      have hVV := HV.out
      rw [concat_txt] at hVV
      have p0 := hVV.cell 0 (v := .string (strB (word k))) rfl
      have p1 := hVV.cell 1 (v := .string (strB (word k ++ 40 :: (J ++ [41])))) rfl
      have p2 := hVV.cell 2 (v := .slice (some ⟨g, 0, none⟩) j c) rfl
      have hz6 := hVV.lt
      have HRV : V.rangeAt g 0 (tcs zl) := by
        have h1 := rangeAt_below (rangeAt_below HRW.out HW.out) HJB.out
        intro i v hv
        have h2 := h1 i v hv
        have hne : g ≠ w.heap.size := by have := HGW.out; omega
        have := HGV.out.block g (World.block_lt_of_cell? wj _ h2) (fun e => hne (Option.some.inj e))
        unfold World.cell? at h2 ⊢
        simp only [this]
        exact h2
      have HTV := HTP.out
      have HBV := HBJ.out.grown HGV.out HBJ.out.size (fun i hi => by cases hi; exact Nat.le_refl _)
      refine bodyPost_ret (v := .agg #[.string (strB (word k)), .string (strB (word k ++ 40 :: (J ++ [41]))), .slice (some ⟨g, 0, none⟩) j c]) (by simp [results, Tryd.results35, go_sem, p0, p1, p2, hz6]) rfl ?_
      have hz := HZE.out
      rw [HJ2.out]
      rw [hz] at HRV HTV
      have hj1 : j = 1 := by rw [← HNE.out]; rfl
      subst hj1
      exact ⟨g, c, pa, rfl, by have := HGW.out; omega, World.block_lt_of_cell? V _ (HRV 0 _ (by rw [tcs_one]; rfl)), hnc, hcm, HRV, HTV (a, pa) (by simp), HBV⟩
set_option maxRecDepth 20000 in
set_option maxHeartbeats 8000000 in
theorem build_two {Q : Tm → Value → Prop} (hQ : ∀ t p, Q t p → p.oneCell' = true) (w : World) (v : Value) (a b : Tm) (k : Nat) (h3 : 3 ≤ k) (h7 : k < 7) (h4 : k ≠ 4) (h : TS Q w v [a, b]) (ha : a.txt.length ≤ 5000) (hb : b.txt.length ≤ 5000) :
    Calls Tryd.prog 35 #[.string (strB (word k)), v] w fun e w' => ∃ g c pa pb, e = .returned (.agg (tv (.two k a b) (.slice (some ⟨g, 0, none⟩) 2 c))) ∧ w.heap.size ≤ g ∧ g < w'.heap.size ∧ 2 ≤ c ∧ c ≤ maxLen ∧ w'.rangeAt g 0 (tcs [(a, pa), (b, pb)]) ∧ Q a pa ∧ Q b pb ∧ Below w.heap.size w w' := by
  have HCL := Lib.hid (show ∀ W, Below w.heap.size w W → Calls Tryd.prog 41 #[v] W fun e w' => ∃ v' ps, e = .returned v' ∧ ps.length = 2 ∧ w'.ownsRow W.heap.size 31 3 v' 2 (tcs ([a, b].zip ps)) ∧ (∀ (j : Nat) t p, [a, b][j]? = some t → ps[j]? = some p → Q t p) ∧ Below W.heap.size W w' from fun W hW => TClone_any hQ W v [a, b] (h.below hW) (by simp))
  obtain ⟨A, c0, _, rfl, _⟩ := id h
  have HKL := Lib.hid (show (word k).length ≤ 10 from word_len k)
  have hsh : ((strB (word k)).toList == [115, 104, 97, 114, 101]) = false := by rw [strB_toList, beq_eq_false_iff_ne]; intro e; have := congrArg numW e; rw [numW_word k (by omega)] at this; rw [show numW [115, 104, 97, 114, 101] = 4 by decide] at this; omega
  have HH := Lib.hid h
  clear h
  go_enter Tryd.func35, Tryd.ntmps35
  have HZA := Lib.hid (Rg.Blk.new w #[.string ⟨#[]⟩, .string ⟨#[]⟩, .slice none 0 0] 31)
  have HBA := Lib.hid (show Below w.heap.size w (w.alloc (.cells #[.string ⟨#[]⟩, .string ⟨#[]⟩, .slice none 0 0] 31)) from (Below.refl _ _).alloc (Nat.le_refl _) _)
  go_upto_region 2 with (go_at_call 41; refine (HCL.out _ HBA.out).mono ?_; rintro e W0 ⟨v1, ps, rfl, hps, ho, htp, hb⟩; obtain ⟨g, c, rfl, hnc, hcm, hBg, hgl0⟩ := own_form ho (by simp); skip; have HOR := Lib.hid (own_range ho); have HPS := Lib.hid hps; have HT0 := Lib.hid htp; have HBA0 := Lib.hid hb; have HBG := Lib.hid hBg; have HB0 := Lib.hid (HBA.out.trans (Below.mono hb HBA.out.size)); have HZ0 := Lib.hid (HZA.out.below hb HZA.out.lt); have HGW := Lib.hid (show w.heap.size < g by simp at hBg; omega); clear hb ho htp hps hBg)
  obtain ⟨pa, pb, rfl⟩ : ∃ p q, ps = [p, q] := len_two HPS.out
  have HTPA := Lib.hid (HT0.out 0 a pa rfl rfl)
  have HTPB := Lib.hid (HT0.out 1 b pb rfl rfl)
  go_quiet (fail)
  go_upto_region 4 with fail
  clear hsh
  refine wp_name (fun W1 hW1 => ?_)
  have hbW : Below W0.heap.size W0 W1 := by rw [hW1]; first | exact HWX.out | exact bdN (Below.refl _ _) _ | exact Below.refl _ _
  clear hW1
  have HRW0 := Lib.hid (rangeAt_below HOR.out.1 hbW)
  have HRW := Lib.hid (show W1.rangeAt g 0 (tcs [(a, pa), (b, pb)]) from HRW0.out)
  have HZ1 := Lib.hid (HZ0.out.below hbW HZ0.out.lt)
  have HB1 := Lib.hid (HB0.out.trans (Below.mono hbW HB0.out.size))
  have HTP := Lib.hid (show ∀ x ∈ [(a, pa), (b, pb)], Q x.1 x.2 from fun x hx => by
    simp at hx
    rcases hx with rfl | rfl
    · exact HTPA.out
    · exact HTPB.out)
  clear hbW
  have HZ0 := HZ1
  obtain ⟨zl, hzl⟩ : ∃ zl, zl = [(a, pa), (b, pb)] := ⟨_, rfl⟩
  rw [← hzl] at HRW HTP
  have HZL := Lib.hid (show zl.length = 2 by rw [hzl]; rfl)
  obtain ⟨J, hJ⟩ : ∃ J, Lib.join (zl.map fun x => x.1.txt) [44] = J := ⟨_, rfl⟩
  have HJN := Lib.hid hJ
  have hJ2 : J = a.txt ++ 44 :: b.txt := by rw [← hJ, hzl]; simp [Lib.join, List.intercalate]
  have HJ2 := Lib.hid hJ2
  have HZE := Lib.hid hzl
  have HJL := Lib.hid (show J.length ≤ 20000 by rw [hJ2]; first | omega | (simp; omega))
  clear hJ hJ2 hzl
  have HW1 := Lib.hid (show w.heap.size < W1.heap.size from Nat.lt_of_lt_of_le HGW.out (Nat.le_of_lt (World.block_lt_of_cell? W1 _ (HRW.out 0 _ (List.getElem?_eq_getElem (show 0 < (tcs zl).length by rw [tcs_length, HZL.out]; omega))))))
  have hgl : g < W1.heap.size := World.block_lt_of_cell? W1 _ (HRW.out 0 _ (List.getElem?_eq_getElem (show 0 < (tcs zl).length by rw [tcs_length, HZL.out]; omega)))
  go_upto_region 6 with fail
  go_loopw [27, 5] (fun i u wr => ∃ j : Nat, j ≤ 2 ∧ i = .int .i64 j ∧ Owns wr W1.heap.size 9 u ((zl.take j).map fun x => .string (strB x.1.txt)) ∧ Below W1.heap.size W1 wr) (fun i _ _ => 2 - (intOf i).toNat)
  case atStart => exact ⟨0, Nat.zero_le _, rfl, Owns.nil _ _ _, Below.refl _ _⟩
  case round =>
    obtain ⟨j, hj, rfl, ho, hb⟩ := hrel
    have HO := Lib.hid ho
    have HW := Lib.hid hb
    clear ho hb
    by_cases hlt : j < 2
    · have hd : decide (j < 2) = true := by simp; exact hlt
      have hik : (j : Int) < 2 := by omega
      have hik0 : (0 : Int) ≤ j := by omega
      obtain ⟨x, hx⟩ : ∃ x, zl[j]? = some x := ⟨_, List.getElem?_eq_getElem (by rw [HZL.out]; exact hlt)⟩
      have HX := Lib.hid hx
      have HC := Lib.hid (show ∀ i v, (tcl x).toArray[i]? = some v → wr.cell? ⟨g, j * 3 + i, none⟩ = some v from fun i v hv => by
        have := HRW.out (j * 3 + i) v (tcs_at hx i v (by simpa using hv))
        rw [Nat.zero_add] at this
        exact (HW.out.cell (p := ⟨g, j * 3 + i, none⟩) hgl).trans this)
      have HON := Lib.hid (tcl_one (hQ _ _ (HTP.out x (List.mem_of_getElem? hx))))
      clear hx
      go_upto_region 8 with (first
        | (refine Cv.load_cells rfl 31 _ rfl g (j * 3) rfl (tcl x).toArray _ HC.out Tryd.underlying31 rfl (by kernel_rfl) ?_; skip)
        | (refine Rg.store_fresh rfl 31 _ _ rfl (tcl x).toArray _ 31 rfl rfl (by kernel_rfl) rfl HON.out ?_; intro Z hZ hbZ; have HZ := Lib.hid hZ; have HBZ := Lib.hid hbZ; clear hZ hbZ))
      have HWZ := Lib.hid (HW.out.trans (HBZ.out.mono HW.out.size))
      have HOZ := Lib.hid (HO.out.below HBZ.out)
      have c1 := HZ.out.cell 1 (v := .string (strB x.1.txt)) rfl
      have HOY := Lib.hid (HOZ.out.alloc (.cells #[.string (strB x.1.txt)] 9))
      have HBY := Lib.hid (show Below W1.heap.size W1 (Z.alloc (.cells #[.string (strB x.1.txt)] 9)) from HWZ.out.alloc HWZ.out.size _)
      have HRY := Lib.hid (Rd.one Z 9 (.string (strB x.1.txt)))
      have HSZ := Lib.hid (show (((zl.take j).map fun (x : Tm × Value) => Value.string (strB x.1.txt)).length + 1) * 16 ≤ 140737488355328 by rw [List.length_map, List.length_take]; omega)
      go_wp2_with (refine app rfl _ _ 22 rfl Tryd.underlying22 infoS rfl (by decide) HOY.out rfl rfl (show [Value.string (strB x.1.txt)].length = 1 from rfl) HRY.out (by intro u hu; simp at hu; subst hu; rfl) HSZ.out HBY.out.size ?_; intro v' w' h2 h3 h4; have H2 := Lib.hid h2; have HBF := Lib.hid (HBY.out.grown h3 HBY.out.size (fun k hk => (HOY.out.lt k hk).1)); clear h2 h3 h4)
      go_roundw
      case rel =>
        have hj3 : j < zl.length := by rw [HZL.out]; exact hlt
        have HF : Owns w' W1.heap.size 9 v' ((zl.take (j + 1)).map fun x => .string (strB x.1.txt)) := by
          rw [List.take_succ_eq_append_getElem hj3, (List.getElem?_eq_some_iff.1 HX.out).2, List.map_append]; exact H2.out
        first
          | exact ⟨j + 1, by omega, by go_num, HF, HBF.out⟩
          | ((repeat apply Exists.intro); refine ⟨?_, rfl⟩; exact ⟨j + 1, by omega, by go_num, HF, HBF.out⟩)
      case measure => (first | (simp [intOf]; done) | (simp [intOf]; omega))
    · obtain rfl : j = 2 := by omega
      have hd : decide (2 < 2) = false := by simp
      have ho := HO.out
      rw [List.take_of_length_le (by rw [HZL.out]; exact Nat.le_refl _)] at ho
      obtain ⟨gw, cw, hu, hcw, hcwm, hgw, hglt, hrd⟩ := owns_form ho (by intro e; have := congrArg List.length e; rw [List.length_map, HZL.out] at this; simp at this <;> omega)
      rw [List.length_map, HZL.out] at hu hcw
      subst hu
      have HJ := Lib.hid (show Calls Tryd.prog 47 #[.slice (some ⟨gw, 0, none⟩) 2 cw, .string ⟨#[44]⟩] wr fun e w' => e = .returned (.string (strB J)) ∧ Below wr.heap.size wr w' by
        have := Tryd.strings_Join gw 0 cw (zl.map fun x => strB x.1.txt) ⟨#[44]⟩ wr (fun i y hy => by
          rw [List.getElem?_map, Option.map_eq_some_iff] at hy
          obtain ⟨x, hx, rfl⟩ := hy
          obtain ⟨b', o', e, _, hc⟩ := hrd i (.string (strB x.1.txt)) (by rw [List.getElem?_map, hx]; rfl)
          injection e with e
          injection e with e1 e2
          subst e1 e2
          exact hc) hglt (by rw [List.length_map, HZL.out] <;> omega) (by rw [List.length_map, HZL.out]; exact hcw) (by rw [List.map_map]; rw [show (zl.map ((fun y : ByteArray => y.data.toList) ∘ fun x : Tm × Value => strB x.1.txt)) = zl.map fun x => x.1.txt from rfl, HJN.out]; have := HJL.out; omega)
        rw [List.map_map, show (zl.map ((fun y : ByteArray => y.data.toList) ∘ fun x : Tm × Value => strB x.1.txt)) = zl.map fun x => x.1.txt from rfl] at this
        rw [show ((⟨#[44]⟩ : ByteArray).data.toList) = [44] from rfl, HJN.out, List.length_map, HZL.out] at this
        exact this)
      have hK : (strB (word k)).size ≤ 10 := by rw [strB_size]; exact HKL.out
      have hJs : (strB J).size ≤ 20000 := by rw [strB_size]; exact HJL.out
      have HZW := Lib.hid (HZ0.out.below HW.out (Nat.lt_of_lt_of_le HZ0.out.lt (Nat.le_refl _)))
      have HBW := Lib.hid (HB1.out.trans (HW.out.mono HB1.out.size))
      clear ho hrd
      go_wp2_with (first
        | (go_at_call 47; refine HJ.out.mono ?_; rintro e wj ⟨rfl, hbj⟩; skip; have HJB := Lib.hid hbj; have HZJ := Lib.hid (HZW.out.below hbj HZW.out.lt); have HBJ := Lib.hid (HBW.out.trans (hbj.mono HBW.out.size)); clear hbj)
        | (refine Cv.store_blk rfl 31 _ _ rfl w.heap.size #[.string (strB (word k)), .string (strB (word k) ++ ⟨#[40]⟩ ++ strB J ++ ⟨#[41]⟩), .slice (some ⟨g, 0, none⟩) 2 c] #[.string ⟨#[]⟩, .string ⟨#[]⟩, .slice none 0 0] 31 rfl rfl HZJ.out (by kernel_rfl) rfl (by simp [Value.oneCell']) ?_; intro V hV hgV; have HV := Lib.hid hV; have HGV := Lib.hid hgV; clear hV hgV))
      have hVV := HV.out
      rw [concat_txt] at hVV
      have p0 := hVV.cell 0 (v := .string (strB (word k))) rfl
      have p1 := hVV.cell 1 (v := .string (strB (word k ++ 40 :: (J ++ [41])))) rfl
      have p2 := hVV.cell 2 (v := .slice (some ⟨g, 0, none⟩) 2 c) rfl
      have hz6 := hVV.lt
      have HRV : V.rangeAt g 0 (tcs zl) := by
        have h1 := rangeAt_below (rangeAt_below HRW.out HW.out) HJB.out
        intro i v hv
        have h2 := h1 i v hv
        have hne : g ≠ w.heap.size := by have := HGW.out; omega
        have := HGV.out.block g (World.block_lt_of_cell? wj _ h2) (fun e => hne (Option.some.inj e))
        unfold World.cell? at h2 ⊢
        simp only [this]
        exact h2
      have HTV := HTP.out
      have HBV := HBJ.out.grown HGV.out HBJ.out.size (fun i hi => by cases hi; exact Nat.le_refl _)
      refine bodyPost_ret (v := .agg #[.string (strB (word k)), .string (strB (word k ++ 40 :: (J ++ [41]))), .slice (some ⟨g, 0, none⟩) 2 c]) (by simp [results, Tryd.results35, go_sem, p0, p1, p2, hz6]) rfl ?_
      have hz := HZE.out
      rw [HJ2.out]
      rw [hz] at HRV HTV
      exact ⟨g, c, pa, pb, by simp [tv, Tm.txt, Tm.knd], by have := HGW.out; omega, World.block_lt_of_cell? V _ (HRV 0 _ (by rw [tcs_two]; rfl)), hnc, hcm, HRV, HTV (a, pa) (by simp), HTV (b, pb) (by simp), HBV⟩
set_option maxRecDepth 20000 in
set_option maxHeartbeats 8000000 in
theorem build_shn {Q : Tm → Value → Prop} (hQ : ∀ t p, Q t p → p.oneCell' = true) (w : World) (v : Value) (a b : Tm) (hlt : ¬ b.txt < a.txt) (h : TS Q w v [a, b]) (ha : a.txt.length ≤ 5000) (hb : b.txt.length ≤ 5000) :
    Calls Tryd.prog 35 #[.string (strB (word 4)), v] w fun e w' => ∃ g c pa pb, e = .returned (.agg (tv (.two 4 a b) (.slice (some ⟨g, 0, none⟩) 2 c))) ∧ w.heap.size ≤ g ∧ g < w'.heap.size ∧ 2 ≤ c ∧ c ≤ maxLen ∧ w'.rangeAt g 0 (tcs [(a, pa), (b, pb)]) ∧ Q a pa ∧ Q b pb ∧ Below w.heap.size w w' := by
  obtain ⟨k, hk4⟩ : ∃ k, k = 4 := ⟨4, rfl⟩
  rw [← hk4]
  have HCL := Lib.hid (show ∀ W, Below w.heap.size w W → Calls Tryd.prog 41 #[v] W fun e w' => ∃ v' ps, e = .returned v' ∧ ps.length = 2 ∧ w'.ownsRow W.heap.size 31 3 v' 2 (tcs ([a, b].zip ps)) ∧ (∀ (j : Nat) t p, [a, b][j]? = some t → ps[j]? = some p → Q t p) ∧ Below W.heap.size W w' from fun W hW => TClone_any hQ W v [a, b] (h.below hW) (by simp))
  obtain ⟨A, c0, _, rfl, _⟩ := id h
  have HKL := Lib.hid (show (word k).length ≤ 10 from word_len k)
  have hsh : ((strB (word k)).toList == [115, 104, 97, 114, 101]) = true := by rw [strB_toList, hk4]; rfl
  have HK4 := Lib.hid hk4
  clear hk4
  have HH := Lib.hid h
  clear h
  go_enter Tryd.func35, Tryd.ntmps35
  have HZA := Lib.hid (Rg.Blk.new w #[.string ⟨#[]⟩, .string ⟨#[]⟩, .slice none 0 0] 31)
  have HBA := Lib.hid (show Below w.heap.size w (w.alloc (.cells #[.string ⟨#[]⟩, .string ⟨#[]⟩, .slice none 0 0] 31)) from (Below.refl _ _).alloc (Nat.le_refl _) _)
  go_upto_region 2 with (go_at_call 41; refine (HCL.out _ HBA.out).mono ?_; rintro e W0 ⟨v1, ps, rfl, hps, ho, htp, hb⟩; obtain ⟨g, c, rfl, hnc, hcm, hBg, hgl0⟩ := own_form ho (by simp); skip; have HOR := Lib.hid (own_range ho); have HPS := Lib.hid hps; have HT0 := Lib.hid htp; have HBA0 := Lib.hid hb; have HBG := Lib.hid hBg; have HB0 := Lib.hid (HBA.out.trans (Below.mono hb HBA.out.size)); have HZ0 := Lib.hid (HZA.out.below hb HZA.out.lt); have HGW := Lib.hid (show w.heap.size < g by simp at hBg; omega); clear hb ho htp hps hBg)
  obtain ⟨pa, pb, rfl⟩ : ∃ p q, ps = [p, q] := len_two HPS.out
  have HTPA := Lib.hid (HT0.out 0 a pa rfl rfl)
  have HTPB := Lib.hid (HT0.out 1 b pb rfl rfl)
  have hor : W0.rangeAt g 0 (tcl (a, pa) ++ tcl (b, pb)) := by have := HOR.out.1; rw [show [a, b].zip [pa, pb] = [(a, pa), (b, pb)] from rfl, tcs_two] at this; exact this
  have HCA := Lib.hid (show ∀ W, Below W0.heap.size W0 W → W.cell? ⟨g, 1, none⟩ = some (.string (strB a.txt)) from fun W hW => rangeAt_below hor hW 1 _ rfl)
  have HCB := Lib.hid (show ∀ W, Below W0.heap.size W0 W → W.cell? ⟨g, 4, none⟩ = some (.string (strB b.txt)) from fun W hW => rangeAt_below hor hW 4 _ rfl)
  have hbl : Op.bytesLess (strB b.txt).toList (strB a.txt).toList = false := by rw [bytesLess_eq, strB_toList, strB_toList]; simpa using hlt
  have HOR2 := Lib.hid hor
  clear hor
  have hc2 : 2 ≤ c := hnc
  refine RL.start (RL.Aft W0) (by kernel_rfl) (RL.Aft.drew (RL.Aft.refl W0)) ?_
  refine' RL.takeV (i := 0) (v := _) rfl (by kernel_rfl) (by kernel_rfl) (by kernel_rfl) (fun _ _ _ h => h) (by rfl) ?hk1 ?_
  case hk1 => (intro W hSW; go_simp; try with_reducible rfl)
  (try simp only [Act.put, List.setIfInBounds_toArray, List.set_cons_zero, List.set_cons_succ])
  refine' RL.takeV (i := 1) (v := _) rfl (by kernel_rfl) (by kernel_rfl) (by kernel_rfl) (fun _ _ _ h => h) (by rfl) ?hk2 ?_
  case hk2 => (intro W hSW; go_simp; try with_reducible rfl)
  (try simp only [Act.put, List.setIfInBounds_toArray, List.set_cons_zero, List.set_cons_succ])
  refine' RL.takeV (i := 2) (v := _) rfl (by kernel_rfl) (by kernel_rfl) (by kernel_rfl) (fun _ _ _ h => h) (by rfl) ?hk3 ?_
  case hk3 => (intro W hSW; go_simp; try with_reducible rfl)
  (try simp only [Act.put, List.setIfInBounds_toArray, List.set_cons_zero, List.set_cons_succ])
  refine' RL.takeV (i := 3) (v := _) rfl (by kernel_rfl) (by kernel_rfl) (by kernel_rfl) (fun _ _ _ h => h) (by rfl) ?hk4 ?_
  case hk4 => (intro W hSW; go_simp; try with_reducible rfl)
  (try simp only [Act.put, List.setIfInBounds_toArray, List.set_cons_zero, List.set_cons_succ])
  refine' RL.takeV (i := 4) (v := _) rfl (by kernel_rfl) (by kernel_rfl) (by kernel_rfl) (fun _ _ _ h => h) (by rfl) ?hk5 ?_
  case hk5 => (intro W hSW; go_simp; try with_reducible rfl)
  (try simp only [Act.put, List.setIfInBounds_toArray, List.set_cons_zero, List.set_cons_succ])
  refine' RL.takeV (i := 5) (v := _) rfl (by kernel_rfl) (by kernel_rfl) (by kernel_rfl) (fun _ _ _ h => h) (by rfl) ?hk6 ?_
  case hk6 => (intro W hSW; go_simp; try with_reducible rfl)
  (try simp only [Act.put, List.setIfInBounds_toArray, List.set_cons_zero, List.set_cons_succ])
  refine' RL.takeV (i := 6) (v := _) rfl (by kernel_rfl) (by kernel_rfl) (by kernel_rfl) (fun _ _ _ h => h) (by rfl) ?hk7 ?_
  case hk7 => (intro W hSW; have cb := HCB.out W hSW; go_simp; try with_reducible rfl)
  (try simp only [Act.put, List.setIfInBounds_toArray, List.set_cons_zero, List.set_cons_succ])
  refine' RL.takeV (i := 7) (v := _) rfl (by kernel_rfl) (by kernel_rfl) (by kernel_rfl) (fun _ _ _ h => h) (by rfl) ?hk8 ?_
  case hk8 => (intro W hSW; go_simp; try with_reducible rfl)
  (try simp only [Act.put, List.setIfInBounds_toArray, List.set_cons_zero, List.set_cons_succ])
  refine' RL.takeV (i := 8) (v := _) rfl (by kernel_rfl) (by kernel_rfl) (by kernel_rfl) (fun _ _ _ h => h) (by rfl) ?hk9 ?_
  case hk9 => (intro W hSW; go_simp; try with_reducible rfl)
  (try simp only [Act.put, List.setIfInBounds_toArray, List.set_cons_zero, List.set_cons_succ])
  refine' RL.takeV (i := 9) (v := _) rfl (by kernel_rfl) (by kernel_rfl) (by kernel_rfl) (fun _ _ _ h => h) (by rfl) ?hk10 ?_
  case hk10 => (intro W hSW; go_simp; try with_reducible rfl)
  (try simp only [Act.put, List.setIfInBounds_toArray, List.set_cons_zero, List.set_cons_succ])
  refine' RL.takeV (i := 10) (v := _) rfl (by kernel_rfl) (by kernel_rfl) (by kernel_rfl) (fun _ _ _ h => h) (by rfl) ?hk11 ?_
  case hk11 => (intro W hSW; have ca := HCA.out W hSW; go_simp; try with_reducible rfl)
  (try simp only [Act.put, List.setIfInBounds_toArray, List.set_cons_zero, List.set_cons_succ])
  refine' RL.takeV (i := 11) (v := _) rfl (by kernel_rfl) (by kernel_rfl) (by kernel_rfl) (fun _ _ _ h => h) (by rfl) ?hk12 ?_
  case hk12 => (intro W hSW; go_simp; try with_reducible rfl)
  (try simp only [Act.put, List.setIfInBounds_toArray, List.set_cons_zero, List.set_cons_succ])
  refine' RL.takeV (i := 12) (v := _) rfl (by kernel_rfl) (by kernel_rfl) (by kernel_rfl) (fun _ _ _ h => h) (by rfl) ?hk13 ?_
  case hk13 => (intro W hSW; go_simp; try with_reducible rfl)
  (try simp only [Act.put, List.setIfInBounds_toArray, List.set_cons_zero, List.set_cons_succ])
  refine RL.done (by kernel_rfl) (fun WX hlWX hsWX => ?_)
  have HWX := Lib.hid (show Below W0.heap.size W0 WX from hsWX)
  clear hlWX hsWX
  go_upto_region 4 with fail
  clear hbl
  clear hsh
  refine wp_name (fun W1 hW1 => ?_)
  have hbW : Below W0.heap.size W0 W1 := by rw [hW1]; first | exact HWX.out | exact bdN (Below.refl _ _) _ | exact Below.refl _ _
  clear hW1
  have HRW0 := Lib.hid (rangeAt_below HOR.out.1 hbW)
  have HRW := Lib.hid (show W1.rangeAt g 0 (tcs [(a, pa), (b, pb)]) from HRW0.out)
  have HZ1 := Lib.hid (HZ0.out.below hbW HZ0.out.lt)
  have HB1 := Lib.hid (HB0.out.trans (Below.mono hbW HB0.out.size))
  have HTP := Lib.hid (show ∀ x ∈ [(a, pa), (b, pb)], Q x.1 x.2 from fun x hx => by
    simp at hx
    rcases hx with rfl | rfl
    · exact HTPA.out
    · exact HTPB.out)
  clear hbW
  have HZ0 := HZ1
  obtain ⟨zl, hzl⟩ : ∃ zl, zl = [(a, pa), (b, pb)] := ⟨_, rfl⟩
  rw [← hzl] at HRW HTP
  have HZL := Lib.hid (show zl.length = 2 by rw [hzl]; rfl)
  obtain ⟨J, hJ⟩ : ∃ J, Lib.join (zl.map fun x => x.1.txt) [44] = J := ⟨_, rfl⟩
  have HJN := Lib.hid hJ
  have hJ2 : J = a.txt ++ 44 :: b.txt := by rw [← hJ, hzl]; simp [Lib.join, List.intercalate]
  have HJ2 := Lib.hid hJ2
  have HZE := Lib.hid hzl
  have HJL := Lib.hid (show J.length ≤ 20000 by rw [hJ2]; first | omega | (simp; omega))
  clear hJ hJ2 hzl
  have HW1 := Lib.hid (show w.heap.size < W1.heap.size from Nat.lt_of_lt_of_le HGW.out (Nat.le_of_lt (World.block_lt_of_cell? W1 _ (HRW.out 0 _ (List.getElem?_eq_getElem (show 0 < (tcs zl).length by rw [tcs_length, HZL.out]; omega))))))
  have hgl : g < W1.heap.size := World.block_lt_of_cell? W1 _ (HRW.out 0 _ (List.getElem?_eq_getElem (show 0 < (tcs zl).length by rw [tcs_length, HZL.out]; omega)))
  go_upto_region 6 with fail
  go_loopw [27, 5] (fun i u wr => ∃ j : Nat, j ≤ 2 ∧ i = .int .i64 j ∧ Owns wr W1.heap.size 9 u ((zl.take j).map fun x => .string (strB x.1.txt)) ∧ Below W1.heap.size W1 wr) (fun i _ _ => 2 - (intOf i).toNat)
  case atStart => exact ⟨0, Nat.zero_le _, rfl, Owns.nil _ _ _, Below.refl _ _⟩
  case round =>
    obtain ⟨j, hj, rfl, ho, hb⟩ := hrel
    have HO := Lib.hid ho
    have HW := Lib.hid hb
    clear ho hb
    by_cases hlt : j < 2
    · have hd : decide (j < 2) = true := by simp; exact hlt
      have hik : (j : Int) < 2 := by omega
      have hik0 : (0 : Int) ≤ j := by omega
      obtain ⟨x, hx⟩ : ∃ x, zl[j]? = some x := ⟨_, List.getElem?_eq_getElem (by rw [HZL.out]; exact hlt)⟩
      have HX := Lib.hid hx
      have HC := Lib.hid (show ∀ i v, (tcl x).toArray[i]? = some v → wr.cell? ⟨g, j * 3 + i, none⟩ = some v from fun i v hv => by
        have := HRW.out (j * 3 + i) v (tcs_at hx i v (by simpa using hv))
        rw [Nat.zero_add] at this
        exact (HW.out.cell (p := ⟨g, j * 3 + i, none⟩) hgl).trans this)
      have HON := Lib.hid (tcl_one (hQ _ _ (HTP.out x (List.mem_of_getElem? hx))))
      clear hx
      go_upto_region 8 with (first
        | (refine Cv.load_cells rfl 31 _ rfl g (j * 3) rfl (tcl x).toArray _ HC.out Tryd.underlying31 rfl (by kernel_rfl) ?_; skip)
        | (refine Rg.store_fresh rfl 31 _ _ rfl (tcl x).toArray _ 31 rfl rfl (by kernel_rfl) rfl HON.out ?_; intro Z hZ hbZ; have HZ := Lib.hid hZ; have HBZ := Lib.hid hbZ; clear hZ hbZ))
      have HWZ := Lib.hid (HW.out.trans (HBZ.out.mono HW.out.size))
      have HOZ := Lib.hid (HO.out.below HBZ.out)
      have c1 := HZ.out.cell 1 (v := .string (strB x.1.txt)) rfl
      have HOY := Lib.hid (HOZ.out.alloc (.cells #[.string (strB x.1.txt)] 9))
      have HBY := Lib.hid (show Below W1.heap.size W1 (Z.alloc (.cells #[.string (strB x.1.txt)] 9)) from HWZ.out.alloc HWZ.out.size _)
      have HRY := Lib.hid (Rd.one Z 9 (.string (strB x.1.txt)))
      have HSZ := Lib.hid (show (((zl.take j).map fun (x : Tm × Value) => Value.string (strB x.1.txt)).length + 1) * 16 ≤ 140737488355328 by rw [List.length_map, List.length_take]; omega)
      go_wp2_with (refine app rfl _ _ 22 rfl Tryd.underlying22 infoS rfl (by decide) HOY.out rfl rfl (show [Value.string (strB x.1.txt)].length = 1 from rfl) HRY.out (by intro u hu; simp at hu; subst hu; rfl) HSZ.out HBY.out.size ?_; intro v' w' h2 h3 h4; have H2 := Lib.hid h2; have HBF := Lib.hid (HBY.out.grown h3 HBY.out.size (fun k hk => (HOY.out.lt k hk).1)); clear h2 h3 h4)
      go_roundw
      case rel =>
        have hj3 : j < zl.length := by rw [HZL.out]; exact hlt
        have HF : Owns w' W1.heap.size 9 v' ((zl.take (j + 1)).map fun x => .string (strB x.1.txt)) := by
          rw [List.take_succ_eq_append_getElem hj3, (List.getElem?_eq_some_iff.1 HX.out).2, List.map_append]; exact H2.out
        first
          | exact ⟨j + 1, by omega, by go_num, HF, HBF.out⟩
          | ((repeat apply Exists.intro); refine ⟨?_, rfl⟩; exact ⟨j + 1, by omega, by go_num, HF, HBF.out⟩)
      case measure => (first | (simp [intOf]; done) | (simp [intOf]; omega))
    · obtain rfl : j = 2 := by omega
      have hd : decide (2 < 2) = false := by simp
      have ho := HO.out
      rw [List.take_of_length_le (by rw [HZL.out]; exact Nat.le_refl _)] at ho
      obtain ⟨gw, cw, hu, hcw, hcwm, hgw, hglt, hrd⟩ := owns_form ho (by intro e; have := congrArg List.length e; rw [List.length_map, HZL.out] at this; simp at this <;> omega)
      rw [List.length_map, HZL.out] at hu hcw
      subst hu
      have HJ := Lib.hid (show Calls Tryd.prog 47 #[.slice (some ⟨gw, 0, none⟩) 2 cw, .string ⟨#[44]⟩] wr fun e w' => e = .returned (.string (strB J)) ∧ Below wr.heap.size wr w' by
        have := Tryd.strings_Join gw 0 cw (zl.map fun x => strB x.1.txt) ⟨#[44]⟩ wr (fun i y hy => by
          rw [List.getElem?_map, Option.map_eq_some_iff] at hy
          obtain ⟨x, hx, rfl⟩ := hy
          obtain ⟨b', o', e, _, hc⟩ := hrd i (.string (strB x.1.txt)) (by rw [List.getElem?_map, hx]; rfl)
          injection e with e
          injection e with e1 e2
          subst e1 e2
          exact hc) hglt (by rw [List.length_map, HZL.out] <;> omega) (by rw [List.length_map, HZL.out]; exact hcw) (by rw [List.map_map]; rw [show (zl.map ((fun y : ByteArray => y.data.toList) ∘ fun x : Tm × Value => strB x.1.txt)) = zl.map fun x => x.1.txt from rfl, HJN.out]; have := HJL.out; omega)
        rw [List.map_map, show (zl.map ((fun y : ByteArray => y.data.toList) ∘ fun x : Tm × Value => strB x.1.txt)) = zl.map fun x => x.1.txt from rfl] at this
        rw [show ((⟨#[44]⟩ : ByteArray).data.toList) = [44] from rfl, HJN.out, List.length_map, HZL.out] at this
        exact this)
      have hK : (strB (word k)).size ≤ 10 := by rw [strB_size]; exact HKL.out
      have hJs : (strB J).size ≤ 20000 := by rw [strB_size]; exact HJL.out
      have HZW := Lib.hid (HZ0.out.below HW.out (Nat.lt_of_lt_of_le HZ0.out.lt (Nat.le_refl _)))
      have HBW := Lib.hid (HB1.out.trans (HW.out.mono HB1.out.size))
      clear ho hrd
      go_wp2_with (first
        | (go_at_call 47; refine HJ.out.mono ?_; rintro e wj ⟨rfl, hbj⟩; skip; have HJB := Lib.hid hbj; have HZJ := Lib.hid (HZW.out.below hbj HZW.out.lt); have HBJ := Lib.hid (HBW.out.trans (hbj.mono HBW.out.size)); clear hbj)
        | (refine Cv.store_blk rfl 31 _ _ rfl w.heap.size #[.string (strB (word k)), .string (strB (word k) ++ ⟨#[40]⟩ ++ strB J ++ ⟨#[41]⟩), .slice (some ⟨g, 0, none⟩) 2 c] #[.string ⟨#[]⟩, .string ⟨#[]⟩, .slice none 0 0] 31 rfl rfl HZJ.out (by kernel_rfl) rfl (by simp [Value.oneCell']) ?_; intro V hV hgV; have HV := Lib.hid hV; have HGV := Lib.hid hgV; clear hV hgV))
      have hVV := HV.out
      rw [concat_txt] at hVV
      have p0 := hVV.cell 0 (v := .string (strB (word k))) rfl
      have p1 := hVV.cell 1 (v := .string (strB (word k ++ 40 :: (J ++ [41])))) rfl
      have p2 := hVV.cell 2 (v := .slice (some ⟨g, 0, none⟩) 2 c) rfl
      have hz6 := hVV.lt
      have HRV : V.rangeAt g 0 (tcs zl) := by
        have h1 := rangeAt_below (rangeAt_below HRW.out HW.out) HJB.out
        intro i v hv
        have h2 := h1 i v hv
        have hne : g ≠ w.heap.size := by have := HGW.out; omega
        have := HGV.out.block g (World.block_lt_of_cell? wj _ h2) (fun e => hne (Option.some.inj e))
        unfold World.cell? at h2 ⊢
        simp only [this]
        exact h2
      have HTV := HTP.out
      have HBV := HBJ.out.grown HGV.out HBJ.out.size (fun i hi => by cases hi; exact Nat.le_refl _)
      refine bodyPost_ret (v := .agg #[.string (strB (word k)), .string (strB (word k ++ 40 :: (J ++ [41]))), .slice (some ⟨g, 0, none⟩) 2 c]) (by simp [results, Tryd.results35, go_sem, p0, p1, p2, hz6]) rfl ?_
      have hz := HZE.out
      have hk4 := HK4.out
      subst hk4
      rw [HJ2.out]
      rw [hz] at HRV HTV
      exact ⟨g, c, pa, pb, by simp [tv, Tm.txt, Tm.knd], by have := HGW.out; omega, World.block_lt_of_cell? V _ (HRV 0 _ (by rw [tcs_two]; rfl)), hnc, hcm, HRV, HTV (a, pa) (by simp), HTV (b, pb) (by simp), HBV⟩
set_option maxRecDepth 20000 in
set_option maxHeartbeats 8000000 in
theorem build_shs {Q : Tm → Value → Prop} (hQ : ∀ t p, Q t p → p.oneCell' = true) (w : World) (v : Value) (a b : Tm) (hlt : b.txt < a.txt) (h : TS Q w v [a, b]) (ha : a.txt.length ≤ 5000) (hb : b.txt.length ≤ 5000) :
    Calls Tryd.prog 35 #[.string (strB (word 4)), v] w fun e w' => ∃ g c pa pb, e = .returned (.agg (tv (.two 4 b a) (.slice (some ⟨g, 0, none⟩) 2 c))) ∧ w.heap.size ≤ g ∧ g < w'.heap.size ∧ 2 ≤ c ∧ c ≤ maxLen ∧ w'.rangeAt g 0 (tcs [(b, pb), (a, pa)]) ∧ Q a pa ∧ Q b pb ∧ Below w.heap.size w w' := by
  obtain ⟨k, hk4⟩ : ∃ k, k = 4 := ⟨4, rfl⟩
  rw [← hk4]
  have HCL := Lib.hid (show ∀ W, Below w.heap.size w W → Calls Tryd.prog 41 #[v] W fun e w' => ∃ v' ps, e = .returned v' ∧ ps.length = 2 ∧ w'.ownsRow W.heap.size 31 3 v' 2 (tcs ([a, b].zip ps)) ∧ (∀ (j : Nat) t p, [a, b][j]? = some t → ps[j]? = some p → Q t p) ∧ Below W.heap.size W w' from fun W hW => TClone_any hQ W v [a, b] (h.below hW) (by simp))
  obtain ⟨A, c0, _, rfl, _⟩ := id h
  have HKL := Lib.hid (show (word k).length ≤ 10 from word_len k)
  have hsh : ((strB (word k)).toList == [115, 104, 97, 114, 101]) = true := by rw [strB_toList, hk4]; rfl
  have HK4 := Lib.hid hk4
  clear hk4
  have HH := Lib.hid h
  clear h
  go_enter Tryd.func35, Tryd.ntmps35
  have HZA := Lib.hid (Rg.Blk.new w #[.string ⟨#[]⟩, .string ⟨#[]⟩, .slice none 0 0] 31)
  have HBA := Lib.hid (show Below w.heap.size w (w.alloc (.cells #[.string ⟨#[]⟩, .string ⟨#[]⟩, .slice none 0 0] 31)) from (Below.refl _ _).alloc (Nat.le_refl _) _)
  go_upto_region 2 with (go_at_call 41; refine (HCL.out _ HBA.out).mono ?_; rintro e W0 ⟨v1, ps, rfl, hps, ho, htp, hb⟩; obtain ⟨g, c, rfl, hnc, hcm, hBg, hgl0⟩ := own_form ho (by simp); skip; have HOR := Lib.hid (own_range ho); have HPS := Lib.hid hps; have HT0 := Lib.hid htp; have HBA0 := Lib.hid hb; have HBG := Lib.hid hBg; have HB0 := Lib.hid (HBA.out.trans (Below.mono hb HBA.out.size)); have HZ0 := Lib.hid (HZA.out.below hb HZA.out.lt); have HGW := Lib.hid (show w.heap.size < g by simp at hBg; omega); clear hb ho htp hps hBg)
  obtain ⟨pa, pb, rfl⟩ : ∃ p q, ps = [p, q] := len_two HPS.out
  have HTPA := Lib.hid (HT0.out 0 a pa rfl rfl)
  have HTPB := Lib.hid (HT0.out 1 b pb rfl rfl)
  have hor : W0.rangeAt g 0 (tcl (a, pa) ++ tcl (b, pb)) := by have := HOR.out.1; rw [show [a, b].zip [pa, pb] = [(a, pa), (b, pb)] from rfl, tcs_two] at this; exact this
  have HCA := Lib.hid (show ∀ W, Below W0.heap.size W0 W → W.cell? ⟨g, 1, none⟩ = some (.string (strB a.txt)) from fun W hW => rangeAt_below hor hW 1 _ rfl)
  have HCB := Lib.hid (show ∀ W, Below W0.heap.size W0 W → W.cell? ⟨g, 4, none⟩ = some (.string (strB b.txt)) from fun W hW => rangeAt_below hor hW 4 _ rfl)
  have hbl : Op.bytesLess (strB b.txt).toList (strB a.txt).toList = true := by rw [bytesLess_eq, strB_toList, strB_toList]; simpa using hlt
  have HOR2 := Lib.hid hor
  clear hor
  have hc2 : 2 ≤ c := hnc
  refine RL.start (RL.Aft W0) (by kernel_rfl) (RL.Aft.drew (RL.Aft.refl W0)) ?_
  refine' RL.takeV (i := 0) (v := _) rfl (by kernel_rfl) (by kernel_rfl) (by kernel_rfl) (fun _ _ _ h => h) (by rfl) ?hk1 ?_
  case hk1 => (intro W hSW; go_simp; try with_reducible rfl)
  (try simp only [Act.put, List.setIfInBounds_toArray, List.set_cons_zero, List.set_cons_succ])
  refine' RL.takeV (i := 1) (v := _) rfl (by kernel_rfl) (by kernel_rfl) (by kernel_rfl) (fun _ _ _ h => h) (by rfl) ?hk2 ?_
  case hk2 => (intro W hSW; go_simp; try with_reducible rfl)
  (try simp only [Act.put, List.setIfInBounds_toArray, List.set_cons_zero, List.set_cons_succ])
  refine' RL.takeV (i := 2) (v := _) rfl (by kernel_rfl) (by kernel_rfl) (by kernel_rfl) (fun _ _ _ h => h) (by rfl) ?hk3 ?_
  case hk3 => (intro W hSW; go_simp; try with_reducible rfl)
  (try simp only [Act.put, List.setIfInBounds_toArray, List.set_cons_zero, List.set_cons_succ])
  refine' RL.takeV (i := 3) (v := _) rfl (by kernel_rfl) (by kernel_rfl) (by kernel_rfl) (fun _ _ _ h => h) (by rfl) ?hk4 ?_
  case hk4 => (intro W hSW; go_simp; try with_reducible rfl)
  (try simp only [Act.put, List.setIfInBounds_toArray, List.set_cons_zero, List.set_cons_succ])
  refine' RL.takeV (i := 4) (v := _) rfl (by kernel_rfl) (by kernel_rfl) (by kernel_rfl) (fun _ _ _ h => h) (by rfl) ?hk5 ?_
  case hk5 => (intro W hSW; go_simp; try with_reducible rfl)
  (try simp only [Act.put, List.setIfInBounds_toArray, List.set_cons_zero, List.set_cons_succ])
  refine' RL.takeV (i := 5) (v := _) rfl (by kernel_rfl) (by kernel_rfl) (by kernel_rfl) (fun _ _ _ h => h) (by rfl) ?hk6 ?_
  case hk6 => (intro W hSW; go_simp; try with_reducible rfl)
  (try simp only [Act.put, List.setIfInBounds_toArray, List.set_cons_zero, List.set_cons_succ])
  refine' RL.takeV (i := 6) (v := _) rfl (by kernel_rfl) (by kernel_rfl) (by kernel_rfl) (fun _ _ _ h => h) (by rfl) ?hk7 ?_
  case hk7 => (intro W hSW; have cb := HCB.out W hSW; go_simp; try with_reducible rfl)
  (try simp only [Act.put, List.setIfInBounds_toArray, List.set_cons_zero, List.set_cons_succ])
  refine' RL.takeV (i := 7) (v := _) rfl (by kernel_rfl) (by kernel_rfl) (by kernel_rfl) (fun _ _ _ h => h) (by rfl) ?hk8 ?_
  case hk8 => (intro W hSW; go_simp; try with_reducible rfl)
  (try simp only [Act.put, List.setIfInBounds_toArray, List.set_cons_zero, List.set_cons_succ])
  refine' RL.takeV (i := 8) (v := _) rfl (by kernel_rfl) (by kernel_rfl) (by kernel_rfl) (fun _ _ _ h => h) (by rfl) ?hk9 ?_
  case hk9 => (intro W hSW; go_simp; try with_reducible rfl)
  (try simp only [Act.put, List.setIfInBounds_toArray, List.set_cons_zero, List.set_cons_succ])
  refine' RL.takeV (i := 9) (v := _) rfl (by kernel_rfl) (by kernel_rfl) (by kernel_rfl) (fun _ _ _ h => h) (by rfl) ?hk10 ?_
  case hk10 => (intro W hSW; go_simp; try with_reducible rfl)
  (try simp only [Act.put, List.setIfInBounds_toArray, List.set_cons_zero, List.set_cons_succ])
  refine' RL.takeV (i := 10) (v := _) rfl (by kernel_rfl) (by kernel_rfl) (by kernel_rfl) (fun _ _ _ h => h) (by rfl) ?hk11 ?_
  case hk11 => (intro W hSW; have ca := HCA.out W hSW; go_simp; try with_reducible rfl)
  (try simp only [Act.put, List.setIfInBounds_toArray, List.set_cons_zero, List.set_cons_succ])
  refine' RL.takeV (i := 11) (v := _) rfl (by kernel_rfl) (by kernel_rfl) (by kernel_rfl) (fun _ _ _ h => h) (by rfl) ?hk12 ?_
  case hk12 => (intro W hSW; go_simp; try with_reducible rfl)
  (try simp only [Act.put, List.setIfInBounds_toArray, List.set_cons_zero, List.set_cons_succ])
  refine' RL.takeV (i := 12) (v := _) rfl (by kernel_rfl) (by kernel_rfl) (by kernel_rfl) (fun _ _ _ h => h) (by rfl) ?hk13 ?_
  case hk13 => (intro W hSW; go_simp; try with_reducible rfl)
  (try simp only [Act.put, List.setIfInBounds_toArray, List.set_cons_zero, List.set_cons_succ])
  refine RL.done (by kernel_rfl) (fun WX hlWX hsWX => ?_)
  have HWX := Lib.hid (show Below W0.heap.size W0 WX from hsWX)
  clear hlWX hsWX
  go_upto_region 4 with (go_at_call 46; refine (Reverse_two _ g c a b pa pb (rangeAt_below HOR2.out HWX.out) (there_below (by have := HOR.out.2; rw [tcs_length] at this; exact this) HWX.out) (hQ _ _ HTPA.out) (hQ _ _ HTPB.out) hc2 hcm).mono ?_; rintro e W1 ⟨⟨vr, rfl⟩, hrr, hgr⟩; skip; have HRR := Lib.hid hrr; have HGR := Lib.hid hgr; clear hrr hgr)
  clear hbl
  clear hsh
  have hgu : W0.grownBy W1 (some g) := Gb.trans (Gb.lat (Gb.refl W0 g) HWX.out) HGR.out
  have HRW := Lib.hid (show W1.rangeAt g 0 (tcs [(b, pb), (a, pa)]) by rw [tcs_two]; exact HRR.out)
  have HZ1 := Lib.hid (show Rg.Blk W1 w.heap.size 31 #[.string ⟨#[]⟩, .string ⟨#[]⟩, .slice none 0 0] by
    have h1 := HZ0.out
    unfold Rg.Blk at *
    rw [hgu.block _ (Array.getElem?_eq_some_iff.1 h1).1 (fun e => by have e := Option.some.inj e; have := HGW.out; omega)]
    exact h1)
  have HB1 := Lib.hid (HB0.out.grown hgu HB0.out.size (fun i hi => by cases hi; have := HGW.out; omega))
  have hba1 := HBA0.out.grown hgu HBA0.out.size (fun i hi => by cases hi; exact HBG.out)
  have HTP := Lib.hid (show ∀ x ∈ [(b, pb), (a, pa)], Q x.1 x.2 from fun x hx => by
    simp at hx
    rcases hx with rfl | rfl
    · exact HTPB.out
    · exact HTPA.out)
  clear hgu hba1
  have HZ0 := HZ1
  obtain ⟨zl, hzl⟩ : ∃ zl, zl = [(b, pb), (a, pa)] := ⟨_, rfl⟩
  rw [← hzl] at HRW HTP
  have HZL := Lib.hid (show zl.length = 2 by rw [hzl]; rfl)
  obtain ⟨J, hJ⟩ : ∃ J, Lib.join (zl.map fun x => x.1.txt) [44] = J := ⟨_, rfl⟩
  have HJN := Lib.hid hJ
  have hJ2 : J = b.txt ++ 44 :: a.txt := by rw [← hJ, hzl]; simp [Lib.join, List.intercalate]
  have HJ2 := Lib.hid hJ2
  have HZE := Lib.hid hzl
  have HJL := Lib.hid (show J.length ≤ 20000 by rw [hJ2]; first | omega | (simp; omega))
  clear hJ hJ2 hzl
  have HW1 := Lib.hid (show w.heap.size < W1.heap.size from Nat.lt_of_lt_of_le HGW.out (Nat.le_of_lt (World.block_lt_of_cell? W1 _ (HRW.out 0 _ (List.getElem?_eq_getElem (show 0 < (tcs zl).length by rw [tcs_length, HZL.out]; omega))))))
  have hgl : g < W1.heap.size := World.block_lt_of_cell? W1 _ (HRW.out 0 _ (List.getElem?_eq_getElem (show 0 < (tcs zl).length by rw [tcs_length, HZL.out]; omega)))
  go_upto_region 6 with fail
  go_loopw [27, 5] (fun i u wr => ∃ j : Nat, j ≤ 2 ∧ i = .int .i64 j ∧ Owns wr W1.heap.size 9 u ((zl.take j).map fun x => .string (strB x.1.txt)) ∧ Below W1.heap.size W1 wr) (fun i _ _ => 2 - (intOf i).toNat)
  case atStart => exact ⟨0, Nat.zero_le _, rfl, Owns.nil _ _ _, Below.refl _ _⟩
  case round =>
    obtain ⟨j, hj, rfl, ho, hb⟩ := hrel
    have HO := Lib.hid ho
    have HW := Lib.hid hb
    clear ho hb
    by_cases hlt : j < 2
    · have hd : decide (j < 2) = true := by simp; exact hlt
      have hik : (j : Int) < 2 := by omega
      have hik0 : (0 : Int) ≤ j := by omega
      obtain ⟨x, hx⟩ : ∃ x, zl[j]? = some x := ⟨_, List.getElem?_eq_getElem (by rw [HZL.out]; exact hlt)⟩
      have HX := Lib.hid hx
      have HC := Lib.hid (show ∀ i v, (tcl x).toArray[i]? = some v → wr.cell? ⟨g, j * 3 + i, none⟩ = some v from fun i v hv => by
        have := HRW.out (j * 3 + i) v (tcs_at hx i v (by simpa using hv))
        rw [Nat.zero_add] at this
        exact (HW.out.cell (p := ⟨g, j * 3 + i, none⟩) hgl).trans this)
      have HON := Lib.hid (tcl_one (hQ _ _ (HTP.out x (List.mem_of_getElem? hx))))
      clear hx
      go_upto_region 8 with (first
        | (refine Cv.load_cells rfl 31 _ rfl g (j * 3) rfl (tcl x).toArray _ HC.out Tryd.underlying31 rfl (by kernel_rfl) ?_; skip)
        | (refine Rg.store_fresh rfl 31 _ _ rfl (tcl x).toArray _ 31 rfl rfl (by kernel_rfl) rfl HON.out ?_; intro Z hZ hbZ; have HZ := Lib.hid hZ; have HBZ := Lib.hid hbZ; clear hZ hbZ))
      have HWZ := Lib.hid (HW.out.trans (HBZ.out.mono HW.out.size))
      have HOZ := Lib.hid (HO.out.below HBZ.out)
      have c1 := HZ.out.cell 1 (v := .string (strB x.1.txt)) rfl
      have HOY := Lib.hid (HOZ.out.alloc (.cells #[.string (strB x.1.txt)] 9))
      have HBY := Lib.hid (show Below W1.heap.size W1 (Z.alloc (.cells #[.string (strB x.1.txt)] 9)) from HWZ.out.alloc HWZ.out.size _)
      have HRY := Lib.hid (Rd.one Z 9 (.string (strB x.1.txt)))
      have HSZ := Lib.hid (show (((zl.take j).map fun (x : Tm × Value) => Value.string (strB x.1.txt)).length + 1) * 16 ≤ 140737488355328 by rw [List.length_map, List.length_take]; omega)
      go_wp2_with (refine app rfl _ _ 22 rfl Tryd.underlying22 infoS rfl (by decide) HOY.out rfl rfl (show [Value.string (strB x.1.txt)].length = 1 from rfl) HRY.out (by intro u hu; simp at hu; subst hu; rfl) HSZ.out HBY.out.size ?_; intro v' w' h2 h3 h4; have H2 := Lib.hid h2; have HBF := Lib.hid (HBY.out.grown h3 HBY.out.size (fun k hk => (HOY.out.lt k hk).1)); clear h2 h3 h4)
      go_roundw
      case rel =>
        have hj3 : j < zl.length := by rw [HZL.out]; exact hlt
        have HF : Owns w' W1.heap.size 9 v' ((zl.take (j + 1)).map fun x => .string (strB x.1.txt)) := by
          rw [List.take_succ_eq_append_getElem hj3, (List.getElem?_eq_some_iff.1 HX.out).2, List.map_append]; exact H2.out
        first
          | exact ⟨j + 1, by omega, by go_num, HF, HBF.out⟩
          | ((repeat apply Exists.intro); refine ⟨?_, rfl⟩; exact ⟨j + 1, by omega, by go_num, HF, HBF.out⟩)
      case measure => (first | (simp [intOf]; done) | (simp [intOf]; omega))
    · obtain rfl : j = 2 := by omega
      have hd : decide (2 < 2) = false := by simp
      have ho := HO.out
      rw [List.take_of_length_le (by rw [HZL.out]; exact Nat.le_refl _)] at ho
      obtain ⟨gw, cw, hu, hcw, hcwm, hgw, hglt, hrd⟩ := owns_form ho (by intro e; have := congrArg List.length e; rw [List.length_map, HZL.out] at this; simp at this <;> omega)
      rw [List.length_map, HZL.out] at hu hcw
      subst hu
      have HJ := Lib.hid (show Calls Tryd.prog 47 #[.slice (some ⟨gw, 0, none⟩) 2 cw, .string ⟨#[44]⟩] wr fun e w' => e = .returned (.string (strB J)) ∧ Below wr.heap.size wr w' by
        have := Tryd.strings_Join gw 0 cw (zl.map fun x => strB x.1.txt) ⟨#[44]⟩ wr (fun i y hy => by
          rw [List.getElem?_map, Option.map_eq_some_iff] at hy
          obtain ⟨x, hx, rfl⟩ := hy
          obtain ⟨b', o', e, _, hc⟩ := hrd i (.string (strB x.1.txt)) (by rw [List.getElem?_map, hx]; rfl)
          injection e with e
          injection e with e1 e2
          subst e1 e2
          exact hc) hglt (by rw [List.length_map, HZL.out] <;> omega) (by rw [List.length_map, HZL.out]; exact hcw) (by rw [List.map_map]; rw [show (zl.map ((fun y : ByteArray => y.data.toList) ∘ fun x : Tm × Value => strB x.1.txt)) = zl.map fun x => x.1.txt from rfl, HJN.out]; have := HJL.out; omega)
        rw [List.map_map, show (zl.map ((fun y : ByteArray => y.data.toList) ∘ fun x : Tm × Value => strB x.1.txt)) = zl.map fun x => x.1.txt from rfl] at this
        rw [show ((⟨#[44]⟩ : ByteArray).data.toList) = [44] from rfl, HJN.out, List.length_map, HZL.out] at this
        exact this)
      have hK : (strB (word k)).size ≤ 10 := by rw [strB_size]; exact HKL.out
      have hJs : (strB J).size ≤ 20000 := by rw [strB_size]; exact HJL.out
      have HZW := Lib.hid (HZ0.out.below HW.out (Nat.lt_of_lt_of_le HZ0.out.lt (Nat.le_refl _)))
      have HBW := Lib.hid (HB1.out.trans (HW.out.mono HB1.out.size))
      clear ho hrd
      go_wp2_with (first
        | (go_at_call 47; refine HJ.out.mono ?_; rintro e wj ⟨rfl, hbj⟩; skip; have HJB := Lib.hid hbj; have HZJ := Lib.hid (HZW.out.below hbj HZW.out.lt); have HBJ := Lib.hid (HBW.out.trans (hbj.mono HBW.out.size)); clear hbj)
        | (refine Cv.store_blk rfl 31 _ _ rfl w.heap.size #[.string (strB (word k)), .string (strB (word k) ++ ⟨#[40]⟩ ++ strB J ++ ⟨#[41]⟩), .slice (some ⟨g, 0, none⟩) 2 c] #[.string ⟨#[]⟩, .string ⟨#[]⟩, .slice none 0 0] 31 rfl rfl HZJ.out (by kernel_rfl) rfl (by simp [Value.oneCell']) ?_; intro V hV hgV; have HV := Lib.hid hV; have HGV := Lib.hid hgV; clear hV hgV))
      have hVV := HV.out
      rw [concat_txt] at hVV
      have p0 := hVV.cell 0 (v := .string (strB (word k))) rfl
      have p1 := hVV.cell 1 (v := .string (strB (word k ++ 40 :: (J ++ [41])))) rfl
      have p2 := hVV.cell 2 (v := .slice (some ⟨g, 0, none⟩) 2 c) rfl
      have hz6 := hVV.lt
      have HRV : V.rangeAt g 0 (tcs zl) := by
        have h1 := rangeAt_below (rangeAt_below HRW.out HW.out) HJB.out
        intro i v hv
        have h2 := h1 i v hv
        have hne : g ≠ w.heap.size := by have := HGW.out; omega
        have := HGV.out.block g (World.block_lt_of_cell? wj _ h2) (fun e => hne (Option.some.inj e))
        unfold World.cell? at h2 ⊢
        simp only [this]
        exact h2
      have HTV := HTP.out
      have HBV := HBJ.out.grown HGV.out HBJ.out.size (fun i hi => by cases hi; exact Nat.le_refl _)
      refine bodyPost_ret (v := .agg #[.string (strB (word k)), .string (strB (word k ++ 40 :: (J ++ [41]))), .slice (some ⟨g, 0, none⟩) 2 c]) (by simp [results, Tryd.results35, go_sem, p0, p1, p2, hz6]) rfl ?_
      have hz := HZE.out
      have hk4 := HK4.out
      subst hk4
      rw [HJ2.out]
      rw [hz] at HRV HTV
      exact ⟨g, c, pa, pb, by simp [tv, Tm.txt, Tm.knd], by have := HGW.out; omega, World.block_lt_of_cell? V _ (HRV 0 _ (by rw [tcs_two]; rfl)), hnc, hcm, HRV, HTV (a, pa) (by simp), HTV (b, pb) (by simp), HBV⟩
/-- a term that stands in its rows, from B on -/
theorem ft_one {B : Nat} {W w : World} {k g c : Nat} {a : Tm} {pa : Value} (hB : B ≤ g) (hg : g < w.heap.size) (h1 : 1 ≤ c) (h2 : c ≤ maxLen) (hr : w.rangeAt g 0 (tcs [(a, pa)])) (hq : FT B W a pa) (hb : Below W.heap.size W w) : FT B w (.one k a) (.slice (some ⟨g, 0, none⟩) 1 c) := fun V hs hk =>
  ⟨_, c, pa, rfl, h1, h2, rd_of_range (fun j v hv => by
    have h := hr j v hv
    unfold World.cell? at h ⊢
    simp only [hk g hB hg]
    exact h), (hq.below hb) V hs hk⟩
theorem ft_two {B : Nat} {W w : World} {k g c : Nat} {a b : Tm} {pa pb : Value} (hB : B ≤ g) (hg : g < w.heap.size) (h1 : 2 ≤ c) (h2 : c ≤ maxLen) (hr : w.rangeAt g 0 (tcs [(a, pa), (b, pb)])) (hq : FT B W a pa) (hq' : FT B W b pb) (hb : Below W.heap.size W w) : FT B w (.two k a b) (.slice (some ⟨g, 0, none⟩) 2 c) := fun V hs hk =>
  ⟨_, c, pa, pb, rfl, h1, h2, rd_of_range (fun j v hv => by
    have h := hr j v hv
    unfold World.cell? at h ⊢
    simp only [hk g hB hg]
    exact h), (hq.below hb) V hs hk, (hq'.below hb) V hs hk⟩
/-- build, of parts that stand from B on -/
theorem buildF_one {B : Nat} (w : World) (hB : B ≤ w.heap.size) (v : Value) (a : Tm) (k : Nat) (hk : k < 3) (h : TS (FT B w) w v [a]) (ha : a.txt.length ≤ 5000) :
    Calls Tryd.prog 35 #[.string (strB (word k)), v] w fun e w' => ∃ p, e = .returned (.agg (tv (.one k a) p)) ∧ FT B w' (.one k a) p ∧ Below w.heap.size w w' :=
  (build_one (fun t p h => FT.one h) w v a k hk h ha).mono fun e w' ⟨g, c, pa, h1, h2, h3, h4, h5, h6, h7, h8⟩ => ⟨_, h1, ft_one (Nat.le_trans hB h2) h3 h4 h5 h6 h7 h8, h8⟩
theorem buildF_two {B : Nat} (w : World) (hB : B ≤ w.heap.size) (v : Value) (a b : Tm) (k : Nat) (h3 : 3 ≤ k) (h7 : k < 7) (h : TS (FT B w) w v [a, b]) (ha : a.txt.length ≤ 5000) (hb : b.txt.length ≤ 5000) :
    Calls Tryd.prog 35 #[.string (strB (word k)), v] w fun e w' => ∃ p, e = .returned (.agg (tv (mk2 k a b) p)) ∧ FT B w' (mk2 k a b) p ∧ Below w.heap.size w w' := by
  have hQ : ∀ t p, FT B w t p → p.oneCell' = true := fun t p h => FT.one h
  unfold mk2
  by_cases h4 : k = 4
  · subst h4
    by_cases hlt : b.txt < a.txt
    · rw [if_pos ⟨rfl, hlt⟩]
      exact (build_shs hQ w v a b hlt h ha hb).mono fun e w' ⟨g, c, pa, pb, h1, h2, h3, h4, h5, h6, h7, h7', h8⟩ => ⟨_, h1, ft_two (Nat.le_trans hB h2) h3 h4 h5 h6 h7' h7 h8, h8⟩
    · rw [if_neg (fun e => hlt e.2)]
      exact (build_shn hQ w v a b hlt h ha hb).mono fun e w' ⟨g, c, pa, pb, h1, h2, h3, h4, h5, h6, h7, h7', h8⟩ => ⟨_, h1, ft_two (Nat.le_trans hB h2) h3 h4 h5 h6 h7 h7' h8, h8⟩
  · rw [if_neg (fun e => h4 e.1)]
    exact (build_two hQ w v a b k h3 h7 h4 h ha hb).mono fun e w' ⟨g, c, pa, pb, h1, h2, h3, h4, h5, h6, h7, h7', h8⟩ => ⟨_, h1, ft_two (Nat.le_trans hB h2) h3 h4 h5 h6 h7 h7' h8, h8⟩
end Go.Proofs.YtfcemnebhapidaaDoor.Te
