/- The reference's Bytes. -/
import Derived.Test.YtjfikbnfabdkoaaDoorMsgRefC
set_option linter.unusedVariables false
set_option linter.unusedSimpArgs false
namespace Go.Proofs.YtjfikbnfabdkoaaDoor.Mg
open Go.RowKit Go.Proofs.YtjfikbnfabdkoaaDoor.Wi Go.Proofs.YtjfikbnfabdkoaaDoor.Ow Go.Proofs.YtjfikbnfabdkoaaDoor.Be
structure RbAt (l T : List UInt8) (us : List Nat) (ss : List ByteArray) (nn : List (List ByteArray)) (bs : List Bool) (k u s n b : Nat) (acc : ByteArray) : Prop where
  c : acc.data.toList ++ enc (l.drop k) (us.drop u) (ss.drop s) (nn.drop n) (bs.drop b) = T
  lu : (us.drop u).length = (l.drop k).count 117
  ls : (ss.drop s).length = cntS (l.drop k)
  ln : (nn.drop n).length = (l.drop k).count 110
  lb : (bs.drop b).length = (l.drop k).count 98
  bu : u ≤ k
  bs : s ≤ k
  bn : n ≤ k
  bb : b ≤ k
  len : acc.size ≤ 1 + k * 1000004
  good : goodL (l.drop k) = true
theorem drop_pos {α : Type} {xs : List α} {i m : Nat} (h : (xs.drop i).length = m + 1) : ∃ x, xs[i]? = some x ∧ xs.drop i = x :: xs.drop (i + 1) := by
  have hi : i < xs.length := by rw [List.length_drop] at h; omega
  exact ⟨xs[i], List.getElem?_eq_getElem hi, List.drop_eq_getElem_cons hi⟩
section
variable {l T : List UInt8} {us : List Nat} {ss : List ByteArray} {nn : List (List ByteArray)} {bs : List Bool} {k u s n b : Nat} {acc : ByteArray}
theorem RbAt.num (h : RbAt l T us ss nn bs k u s n b acc) (hc : l[k]? = some 117) : ∃ x, us[u]? = some x ∧ ∀ t : ByteArray, t.data.toList = be 4 x → RbAt l T us ss nn bs (k + 1) (u + 1) s n b (acc ++ t) := by
  have hd := drop_cons l k _ hc
  obtain ⟨c, lu, ls, ln, lb, bu, bS, bn, bb, len, good⟩ := h
  rw [hd] at c lu ls ln lb good
  obtain ⟨x, hx, he⟩ := drop_pos (xs := us) (i := u) (m := (l.drop (k + 1)).count 117) (by simpa using lu)
  rw [he] at c lu
  refine ⟨x, hx, fun t ht => ⟨?_, by simpa using lu, by simpa [cntS] using ls, by simpa using ln, by simpa using lb, by omega, by omega, by omega, by omega, ?_, ?_⟩⟩
  · rw [← c]; simp [enc, ht]
  · rw [ByteArray.size_append, ← len_list t, ht, be_length]; omega
  · simp only [goodL, Bool.and_eq_true] at good; exact good.2
theorem RbAt.bool (h : RbAt l T us ss nn bs k u s n b acc) (hc : l[k]? = some 98) : ∃ x, bs[b]? = some x ∧ ∀ t : ByteArray, t.data.toList = [if x then 1 else 0] → RbAt l T us ss nn bs (k + 1) u s n (b + 1) (acc ++ t) := by
  have hd := drop_cons l k _ hc
  obtain ⟨c, lu, ls, ln, lb, bu, bS, bn, bb, len, good⟩ := h
  rw [hd] at c lu ls ln lb good
  obtain ⟨x, hx, he⟩ := drop_pos (xs := bs) (i := b) (m := (l.drop (k + 1)).count 98) (by simpa using lb)
  rw [he] at c lb
  refine ⟨x, hx, fun t ht => ⟨?_, by simpa using lu, by simpa [cntS] using ls, by simpa using ln, by simpa using lb, by omega, by omega, by omega, by omega, ?_, ?_⟩⟩
  · rw [← c]; simp [enc, ht]
  · rw [ByteArray.size_append, ← len_list t, ht]; simp; omega
  · simp only [goodL, Bool.and_eq_true] at good; exact good.2
theorem RbAt.names (h : RbAt l T us ss nn bs k u s n b acc) (hc : l[k]? = some 110) : ∃ x, nn[n]? = some x ∧ ∀ t : ByteArray, t.data.toList = textL (joinC x) → (joinC x).length ≤ 1000000 → RbAt l T us ss nn bs (k + 1) u s (n + 1) b (acc ++ t) := by
  have hd := drop_cons l k _ hc
  obtain ⟨c, lu, ls, ln, lb, bu, bS, bn, bb, len, good⟩ := h
  rw [hd] at c lu ls ln lb good
  obtain ⟨x, hx, he⟩ := drop_pos (xs := nn) (i := n) (m := (l.drop (k + 1)).count 110) (by simpa using ln)
  rw [he] at c ln
  refine ⟨x, hx, fun t ht hj => ⟨?_, by simpa using lu, by simpa [cntS] using ls, by simpa using ln, by simpa using lb, by omega, by omega, by omega, by omega, ?_, ?_⟩⟩
  · rw [← c]; simp [enc, ht]
  · rw [ByteArray.size_append, ← len_list t, ht]; unfold textL; rw [List.length_append, be_length]; omega
  · simp only [goodL, Bool.and_eq_true] at good; exact good.2
theorem RbAt.text (h : RbAt l T us ss nn bs k u s n b acc) {c0 : UInt8} (hc : l[k]? = some c0) (h1 : c0 = 99 ∨ c0 = 115 ∨ c0 = 114) : ∃ x, ss[s]? = some x ∧ ∀ t : ByteArray, t.data.toList = (if c0 = 115 then textL x.data.toList else x.data.toList) → x.size ≤ 1000000 → RbAt l T us ss nn bs (k + 1) u (s + 1) n b (acc ++ t) := by
  have hd := drop_cons l k _ hc
  obtain ⟨c, lu, ls, ln, lb, bu, bS, bn, bb, len, good⟩ := h
  rw [hd] at c lu ls ln lb good
  obtain ⟨x, hx, he⟩ := drop_pos (xs := ss) (i := s) (m := cntS (l.drop (k + 1))) (by rw [ls]; rcases h1 with rfl | rfl | rfl <;> simp [cntS] <;> omega)
  rw [he] at c ls
  refine ⟨x, hx, fun t ht hj => ⟨?_, by rcases h1 with rfl | rfl | rfl <;> simpa [List.count_cons] using lu, by rcases h1 with rfl | rfl | rfl <;> simp [cntS] at ls ⊢ <;> omega, by rcases h1 with rfl | rfl | rfl <;> simpa [List.count_cons] using ln, by rcases h1 with rfl | rfl | rfl <;> simpa [List.count_cons] using lb, by omega, by omega, by omega, by omega, ?_, ?_⟩⟩
  · rw [← c]; rcases h1 with rfl | rfl | rfl <;> simp [enc, ht, Mg.hd]
  · rw [ByteArray.size_append, ← len_list t, ht]; split
    · unfold textL; rw [List.length_append, be_length, len_list]; omega
    · rw [len_list]; omega
  · simp only [goodL, Bool.and_eq_true] at good; exact good.2
end
/-- the world gets a name -/
theorem wp_nameX {P : Program} {c : Code} {Q : Exit → Act → World → Prop} {a : Act} {W : World} (h : ∀ X, X = W → c.wp P Q a X) : c.wp P Q a W := h W rfl
set_option maxRecDepth 20000 in
set_option maxHeartbeats 8000000 in
theorem RefBytes_no (w : World) (m : Msg) (vu vs vn vb : Value) (hm : IsMsg w m vu vs vn vb) (hf : Fit m) (hc : checkC m ≠ 0) :
    Calls Tryd.prog 31 #[.agg (mC m.kind vu vs vn vb)] w fun e w' => e = .returned (.string (mkS (bytesL m))) ∧ Below w.heap.size w w' := by
  have HC := Lib.hid (show bytesL m = [] by unfold bytesL; rw [if_pos hc])
  have HB0 := Lib.hid (show Rg.Blk (w.alloc (.cells (mC m.kind vu vs vn vb) 36)) w.heap.size 36 (mC m.kind vu vs vn vb) from Rg.Blk.new w _ _)
  have HA0 := Lib.hid (show Below w.heap.size w (w.alloc (.cells (mC m.kind vu vs vn vb) 36)) from (Below.refl _ _).alloc (Nat.le_refl _) _)
  have HCK := Lib.hid (show ∀ W, Below w.heap.size w W → _ from fun W hW => RefCheck_any W m vu vs vn vb (hm.below hW) hf)
  generalize checkC m = c at *
  have ht : ((c : Int) != 0) = true := by rw [bne_iff_ne]; omega
  clear hm hf hc
  unfold mC at *
  go_enter Tryd.func31, Tryd.ntmps31
  go_wp2_with (first
    | (refine wpList_load_row rfl 36 _ rfl _ rfl _ _ _ _ HB0.out Tryd.underlying36 rfl (by kernel_rfl) ?_; skip)
    | (go_at_call 29; refine (HCK.out _ HA0.out).mono ?_; rintro e w1 ⟨rfl, hb1⟩; skip; have HB1 := Lib.hid (HA0.out.trans (hb1.mono HA0.out.size)); clear hb1))
  go_ret
  exact ⟨by rw [HC.out]; rfl, HB1.out⟩
set_option maxRecDepth 20000 in
set_option maxHeartbeats 8000000 in
theorem RefBytes_ok (w : World) (m : Msg) (vu vs vn vb : Value) (hm : IsMsg w m vu vs vn vb) (hf : Fit m) (hc : checkC m = 0) :
    Calls Tryd.prog 31 #[.agg (mC m.kind vu vs vn vb)] w fun e w' => e = .returned (.string (mkS (bytesL m))) ∧ Below w.heap.size w w' := by
  have HCK := Lib.hid (show ∀ W, Below w.heap.size w W → _ from fun W hW => RefCheck_any W m vu vs vn vb (hm.below hW) hf)
  rw [hc] at HCK
  obtain ⟨kind, us, ss, ns, bs⟩ := m
  simp only at *
  have HF := Lib.hid hf
  obtain ⟨l, hl⟩ : ∃ l, ltr kind = l := ⟨_, rfl⟩
  obtain ⟨ls, hls⟩ : ∃ ls, mkS l = ls := ⟨_, rfl⟩
  obtain ⟨his, hct⟩ : isK kind = true ∧ counted l ⟨kind, us, ss, ns, bs⟩ = true := by
    unfold checkC at hc
    rw [← hl]
    simp only at hc
    cases h1 : isK kind
    · rw [h1] at hc; simp at hc
    · cases h2 : counted (ltr kind) ⟨kind, us, ss, ns, bs⟩
      · rw [h1, h2] at hc; simp at hc
      · exact ⟨rfl, rfl⟩
  obtain ⟨hk0, hk1⟩ := isK_range his
  have HLS := Lib.hid hls
  have HLL := Lib.hid (show l.length ≤ 100 by rw [← hl]; exact ltr_len kind)
  have HLZ := Lib.hid (show ls.size = l.length by rw [← hls]; exact mkS_size l)
  have HLG := Lib.hid (show ls.data.toList = l by rw [← hls]; exact mkS_list l)
  have HGD := Lib.hid (show goodL l = true by rw [← hl]; exact ltr_good kind)
  have HFI := Lib.hid (show ∀ W, Calls Tryd.prog 20 #[.int .i64 kind] W fun e w' => e = .returned (.tuple #[.string ls, .bool true]) ∧ W = w' from fun W => by
    have := RefFields_any W kind
    rw [hl, his, hls] at this; exact this)
  obtain ⟨T, hTT⟩ : ∃ T, UInt8.ofNat kind.toNat :: enc l us ss ns bs = T := ⟨_, rfl⟩
  have HT := Lib.hid (show bytesL ⟨kind, us, ss, ns, bs⟩ = T by unfold bytesL; rw [if_neg (by rw [hc]; decide)]; simp only; rw [hl]; exact hTT)
  obtain ⟨kn, rfl⟩ : ∃ kn : Nat, kind = kn := ⟨kind.toNat, by omega⟩
  have hkn : kn < 256 := by omega
  have HKB := Lib.hid (show ((kn : Int)) = (UInt8.ofNat kn).toNat by simp; omega)
  have HST := Lib.hid (show RbAt l T us ss ns bs 0 0 0 0 0 (mkS [UInt8.ofNat kn]) by
    unfold counted at hct
    simp only [Bool.and_eq_true, decide_eq_true_eq] at hct
    refine ⟨by rw [mkS_list]; exact hTT, hct.1.1.1, hct.1.1.2, hct.1.2, hct.2, Nat.le_refl _, Nat.le_refl _, Nat.le_refl _, Nat.le_refl _, by rw [mkS_size]; simp, HGD.out⟩)
  obtain ⟨au, nu, cu, rfl, hlu, hRu, hu1, hu2⟩ := hm.u
  obtain ⟨aS, nS, cS, rfl, hlS, hRS, hs1, hs2⟩ := hm.s
  obtain ⟨vns, ⟨an, nn, cn, rfl, hln, hRn, hn1, hn2⟩, hvl, hvn⟩ := hm.n
  obtain ⟨ab, nb, cb, rfl, hlb, hRb, hb1, hb2⟩ := hm.b
  simp only at hvl hvn
  rw [List.length_map] at hlu hlS hlb
  have HLU := Lib.hid hlu
  have HLSS := Lib.hid hlS
  have HLB := Lib.hid hlb
  have HLV := Lib.hid hln
  have HLN := Lib.hid (show ns.length = nn by omega)
  have HRu := Lib.hid hRu
  have HRS := Lib.hid hRS
  have HRn := Lib.hid hRn
  have HRb := Lib.hid hRb
  have HVN := Lib.hid hvn
  have HB0 := Lib.hid (show Rg.Blk (w.alloc (.cells (mC kn (.slice au nu cu) (.slice aS nS cS) (.slice an nn cn) (.slice ab nb cb)) 36)) w.heap.size 36 (mC kn (.slice au nu cu) (.slice aS nS cS) (.slice an nn cn) (.slice ab nb cb)) from Rg.Blk.new w _ _)
  have HA0 := Lib.hid (show Below w.heap.size w (w.alloc (.cells (mC kn (.slice au nu cu) (.slice aS nS cS) (.slice an nn cn) (.slice ab nb cb)) 36)) from (Below.refl _ _).alloc (Nat.le_refl _) _)
  obtain ⟨q, hq⟩ : ∃ q, l.length = q := ⟨_, rfl⟩
  have hq1 : q ≤ 100 := by rw [← hq]; exact HLL.out
  have HLQ := Lib.hid (HLZ.out.trans hq)
  have HQ := Lib.hid hq
  clear hq hm hf hc hl hls his hct hk0 hk1 hTT hlu hlS hlb hln hvl hRu hRS hRn hRb hvn hu1 hu2 hs1 hs2 hn1 hn2 hb1 hb2
  unfold mC at *
  go_enter Tryd.func31, Tryd.ntmps31
  go_wp2_with (first
    | (refine wpList_load_row rfl 36 _ rfl _ rfl _ _ _ _ HB0.out Tryd.underlying36 rfl (by kernel_rfl) ?_; skip)
    | (go_at_call 29; refine (HCK.out _ HA0.out).mono ?_; rintro e w1 ⟨rfl, hb1⟩; skip
       have HB1 := Lib.hid (HA0.out.trans (hb1.mono HA0.out.size)); have hm1 := HB0.out.below hb1 HB0.out.lt; have HM1 := Lib.hid hm1; have c0 := hm1.cell 0 (v := .int .i64 kn) rfl; clear hb1 hm1)
    | (go_at_call 20; refine (HFI.out _).mono ?_; rintro e w2 ⟨rfl, rfl⟩; skip)
    | (refine Cv.conv_string rfl 35 5 9 _ rfl Tryd.underlying35 Tryd.underlying5 Tryd.underlying9 w1.heap.size 0 1 1 [UInt8.ofNat kn] rfl rfl (Cv.one_byte _ _ _ _ (by first | exact HKB.out | (have := HKB.out; simp [go_sem]; omega))) ?_; skip))
  refine wp_nameX (fun X hX => ?_)
  have HXW := Lib.hid (show Below w.heap.size w X by rw [hX]; exact HB1.out.alloc HB1.out.size _)
  have HXM := Lib.hid (show Rg.Blk X w.heap.size 36 #[.int .i64 kn, .slice au nu cu, .slice aS nS cS, .slice an nn cn, .slice ab nb cb] by rw [hX]; exact HM1.out.alloc _)
  clear hX c0
  have HST2 := Lib.hid (show RbAt l T us ss ns bs 0 0 0 0 0 ⟨#[UInt8.ofNat kn]⟩ from HST.out)
  go_loopw [5, 6, 7, 8, 9, 10] (fun v5 v6 v7 v8 v9 i wr => ∃ (k u s n b : Nat) (acc : ByteArray), k ≤ q ∧ i = .int .i64 k ∧ v5 = .string acc ∧ v6 = .int .i64 u ∧ v7 = .int .i64 s ∧ v8 = .int .i64 n ∧ v9 = .int .i64 b ∧ RbAt l T us ss ns bs k u s n b acc ∧ Below X.heap.size X wr) (fun _ _ _ _ _ i _ => 200 - (intOf i).toNat)
  case atStart => exact ⟨0, 0, 0, 0, 0, _, Nat.zero_le _, rfl, rfl, rfl, rfl, rfl, rfl, HST2.out, Below.refl _ _⟩
  case round =>
    obtain ⟨k, u, s, n, b, acc, hk, rfl, rfl, rfl, rfl, rfl, rfl, hat, hb⟩ := hrel
    have HAT := Lib.hid hat
    have HB := Lib.hid hb
    have HBW := Lib.hid (HXW.out.trans (hb.mono HXW.out.size))
    have p1 := (HXM.out.below hb HXM.out.lt).cell 1 (v := .slice au nu cu) rfl
    have p2 := (HXM.out.below hb HXM.out.lt).cell 2 (v := .slice aS nS cS) rfl
    have p3 := (HXM.out.below hb HXM.out.lt).cell 3 (v := .slice an nn cn) rfl
    have p4 := (HXM.out.below hb HXM.out.lt).cell 4 (v := .slice ab nb cb) rfl
    clear hat hb
    by_cases hkq : k < q
    · have hlz2 := HLQ.out
      have hks : k < ls.size := by omega
      have hik : (k : Int) < ls.size := by omega
      have hd0 : decide (k < ls.size) = true := by simp; exact hks
      have hx : l[k]? = some ls[k] := by rw [← HLG.out]; exact get_list ls k hks
      clear hlz2
      generalize hxx : ls[k] = x at *
      have HX1 := Lib.hid hx
      have hal : acc.size ≤ 200000000 := by have := HAT.out.len; omega
      have hub : u ≤ 100 := by have := HAT.out.bu; omega
      have hsb : s ≤ 100 := by have := HAT.out.bs; omega
      have hnb : n ≤ 100 := by have := HAT.out.bn; omega
      have hbb : b ≤ 100 := by have := HAT.out.bb; omega
      have hlet := good_letter l k x HAT.out.good hx
      clear hx
      rcases hlet with rfl | rfl | rfl | rfl | rfl | rfl
      · have e117 : (((117 : UInt8).toNat : Int) == 117) = true := rfl
        obtain ⟨y, hy, hnext⟩ := HAT.out.num HX1.out
        have hlt : u < nu := by have := (List.getElem?_eq_some_iff.1 hy).1; have := HLU.out; omega
        have hil : (u : Int) < nu := by omega
        obtain ⟨b1, o1, rfl, hl1, hc1⟩ := HRu.out.at_ (j := u) (by rw [List.length_map, HLU.out]; exact hlt)
        rw [List.getElem_map] at hc1
        have hyy : us[u]'(by rw [HLU.out]; exact hlt) = y := (List.getElem?_eq_some_iff.1 hy).2
        rw [hyy] at hc1
        have hft := HF.out.u y (List.mem_of_getElem? hy)
        obtain ⟨t, ht⟩ : ∃ t, mkS (be 4 y) = t := ⟨_, rfl⟩
        have hts : t.size ≤ 1000004 := by rw [← ht, mkS_size, be_length]; omega
        have HN := Lib.hid (hnext t (by rw [← ht, mkS_list]))
        have HCL := Lib.hid (show ∀ W, Below w.heap.size w W → Calls Tryd.prog 60 #[.int .u64 (y : Int), .int .i64 4] W fun e w' => e = .returned (.string t) ∧ Below W.heap.size W w' from fun W hW => by
          have := RefNum_any W y 4 (by omega) (by decide)
          rw [ht] at this; exact this)
        have hyb : (y : Int) < 4294967296 := by omega
        have hcy := (HBW.out.cell (p := ⟨b1, o1 + u, none⟩) hl1).trans hc1
        clear hy hl1 hc1 hnext hyy ht
        have hq3 : ¬ 9223372036854775807 < acc.size + t.size := by omega
        go_wp2_with (go_at_call 60; refine (HCL.out _ HBW.out).mono ?_; rintro e w3 ⟨rfl, hb3⟩; skip; have HB3 := Lib.hid (HB.out.trans (hb3.mono HB.out.size)); clear hb3)
        go_roundw
        case rel =>
          first
            | exact ⟨k + 1, u + 1, s, n, b, _, by omega, by go_num, rfl, by go_num, rfl, rfl, rfl, HN.out, HB3.out⟩
            | ((repeat apply Exists.intro); refine ⟨?_, rfl⟩; exact ⟨k + 1, u + 1, s, n, b, _, by omega, by go_num, rfl, by go_num, rfl, rfl, rfl, HN.out, HB3.out⟩)
        case measure => simp [intOf]; omega
      · have e117 : (((98 : UInt8).toNat : Int) == 117) = false := rfl
        have e110 : (((98 : UInt8).toNat : Int) == 110) = false := rfl
        have e98 : (((98 : UInt8).toNat : Int) == 98) = true := rfl
        obtain ⟨y, hy, hnext⟩ := HAT.out.bool HX1.out
        have hlt : b < nb := by have := (List.getElem?_eq_some_iff.1 hy).1; have := HLB.out; omega
        have hil : (b : Int) < nb := by omega
        obtain ⟨b1, o1, rfl, hl1, hc1⟩ := HRb.out.at_ (j := b) (by rw [List.length_map, HLB.out]; exact hlt)
        rw [List.getElem_map] at hc1
        have hyy : bs[b]'(by rw [HLB.out]; exact hlt) = y := (List.getElem?_eq_some_iff.1 hy).2
        rw [hyy] at hc1
        have HN1 := Lib.hid (fun h => hnext ⟨#[1]⟩ h)
        have HN0 := Lib.hid (fun h => hnext ⟨#[0]⟩ h)
        have hcy := (HBW.out.cell (p := ⟨b1, o1 + b, none⟩) hl1).trans hc1
        clear hy hl1 hc1 hnext hyy
        cases y
        · have HN := Lib.hid (HN0.out rfl)
          have hq3 : ¬ 9223372036854775807 < acc.size + (⟨#[0]⟩ : ByteArray).size := by have : (⟨#[0]⟩ : ByteArray).size = 1 := rfl; omega
          have hq4 : ¬ 9223372036854775807 < acc.size + 1 := by omega
          go_wp2_with (refine Cv.conv_string rfl 35 5 9 _ rfl Tryd.underlying35 Tryd.underlying5 Tryd.underlying9 wr.heap.size 0 1 1 [0] rfl rfl (Cv.one_byte _ _ _ _ rfl) ?_; skip)
          go_roundw
          case rel =>
            first
              | exact ⟨k + 1, u, s, n, b + 1, _, by omega, by go_num, rfl, rfl, rfl, rfl, by go_num, HN.out, HB.out.alloc HB.out.size _⟩
              | ((repeat apply Exists.intro); refine ⟨?_, rfl⟩; exact ⟨k + 1, u, s, n, b + 1, _, by omega, by go_num, rfl, rfl, rfl, rfl, by go_num, HN.out, HB.out.alloc HB.out.size _⟩)
          case measure => simp [intOf]; omega
        · have HN := Lib.hid (HN1.out rfl)
          have hq3 : ¬ 9223372036854775807 < acc.size + (⟨#[1]⟩ : ByteArray).size := by have : (⟨#[1]⟩ : ByteArray).size = 1 := rfl; omega
          have hq4 : ¬ 9223372036854775807 < acc.size + 1 := by omega
          go_wp2_with (refine Cv.conv_string rfl 35 5 9 _ rfl Tryd.underlying35 Tryd.underlying5 Tryd.underlying9 wr.heap.size 0 1 1 [1] rfl rfl (Cv.one_byte _ _ _ _ rfl) ?_; skip)
          go_roundw
          case rel =>
            first
              | exact ⟨k + 1, u, s, n, b + 1, _, by omega, by go_num, rfl, rfl, rfl, rfl, by go_num, HN.out, HB.out.alloc HB.out.size _⟩
              | ((repeat apply Exists.intro); refine ⟨?_, rfl⟩; exact ⟨k + 1, u, s, n, b + 1, _, by omega, by go_num, rfl, rfl, rfl, rfl, by go_num, HN.out, HB.out.alloc HB.out.size _⟩)
          case measure => simp [intOf]; omega
      · have e117 : (((115 : UInt8).toNat : Int) == 117) = false := rfl
        have e110 : (((115 : UInt8).toNat : Int) == 110) = false := rfl
        have e98 : (((115 : UInt8).toNat : Int) == 98) = false := rfl
        have e115 : (((115 : UInt8).toNat : Int) == 115) = true := rfl
        obtain ⟨y, hy, hnext⟩ := HAT.out.text HX1.out (by decide)
        have hlt : s < nS := by have := (List.getElem?_eq_some_iff.1 hy).1; have := HLSS.out; omega
        have hil : (s : Int) < nS := by omega
        obtain ⟨b1, o1, rfl, hl1, hc1⟩ := HRS.out.at_ (j := s) (by rw [List.length_map, HLSS.out]; exact hlt)
        rw [List.getElem_map] at hc1
        have hyy : ss[s]'(by rw [HLSS.out]; exact hlt) = y := (List.getElem?_eq_some_iff.1 hy).2
        rw [hyy] at hc1
        have hft := HF.out.s y (List.mem_of_getElem? hy)
        simp only [if_pos (show (115 : UInt8) = 115 from rfl)] at hnext
        obtain ⟨t, ht⟩ : ∃ t, mkS (textL y.data.toList) = t := ⟨_, rfl⟩
        have hts : t.size ≤ 1000004 := by rw [← ht, mkS_size]; unfold textL; rw [List.length_append, be_length, len_list]; omega
        have HN := Lib.hid (hnext t (by rw [← ht, mkS_list]; simp) hft)
        have HCL := Lib.hid (show ∀ W, Below w.heap.size w W → Calls Tryd.prog 61 #[.string y] W fun e w' => e = .returned (.string t) ∧ Below W.heap.size W w' from fun W hW => by
          have := RefText_any W y hft
          rw [ht] at this; exact this)
        have hcy := (HBW.out.cell (p := ⟨b1, o1 + s, none⟩) hl1).trans hc1
        clear hy hl1 hc1 hnext hyy ht
        have hq3 : ¬ 9223372036854775807 < acc.size + t.size := by omega
        go_wp2_with (go_at_call 61; refine (HCL.out _ HBW.out).mono ?_; rintro e w3 ⟨rfl, hb3⟩; skip; have HB3 := Lib.hid (HB.out.trans (hb3.mono HB.out.size)); clear hb3)
        go_roundw
        case rel =>
          first
            | exact ⟨k + 1, u, s + 1, n, b, _, by omega, by go_num, rfl, rfl, by go_num, rfl, rfl, HN.out, HB3.out⟩
            | ((repeat apply Exists.intro); refine ⟨?_, rfl⟩; exact ⟨k + 1, u, s + 1, n, b, _, by omega, by go_num, rfl, rfl, by go_num, rfl, rfl, HN.out, HB3.out⟩)
        case measure => simp [intOf]; omega
      · have e117 : (((110 : UInt8).toNat : Int) == 117) = false := rfl
        have e110 : (((110 : UInt8).toNat : Int) == 110) = true := rfl
        obtain ⟨y, hy, hnext⟩ := HAT.out.names HX1.out
        have hlt : n < nn := by have := (List.getElem?_eq_some_iff.1 hy).1; have := HLN.out; omega
        have hil : (n : Int) < nn := by omega
        obtain ⟨vx, hvx, xa, xn, xc, rfl, hxn, hRX, hxc, _⟩ := HVN.out n y hy
        rw [List.length_map] at hxn
        obtain ⟨b1, o1, rfl, hl1, hc1⟩ := HRn.out.at_ (j := n) (by rw [HLV.out]; exact hlt)
        rw [(List.getElem?_eq_some_iff.1 hvx).2] at hc1
        have hft := HF.out.n y (List.mem_of_getElem? hy)
        obtain ⟨t, ht⟩ : ∃ t, mkS (textL (joinC y)) = t := ⟨_, rfl⟩
        have hts : t.size ≤ 1000004 := by rw [← ht, mkS_size]; unfold textL; rw [List.length_append, be_length]; have := hft.2.1; omega
        have HN := Lib.hid (hnext t (by rw [← ht, mkS_list]) hft.2.1)
        have HCL := Lib.hid (show ∀ W, Below w.heap.size w W → Calls Tryd.prog 50 #[.slice xa xn xc] W fun e w' => e = .returned (.string t) ∧ Below W.heap.size W w' from fun W hW => by
          have := RefNames_gen W xa xn xc y hxn (by have := hft.1; omega) (hRX.below hW) hft.2.1
          rw [ht] at this; exact this)
        have hcy := (HBW.out.cell (p := ⟨b1, o1 + n, none⟩) hl1).trans hc1
        clear hy hl1 hc1 hnext hvx hxn hRX hxc hft ht
        have hq3 : ¬ 9223372036854775807 < acc.size + t.size := by omega
        go_wp2_with (go_at_call 50; refine (HCL.out _ HBW.out).mono ?_; rintro e w3 ⟨rfl, hb3⟩; skip; have HB3 := Lib.hid (HB.out.trans (hb3.mono HB.out.size)); clear hb3)
        go_roundw
        case rel =>
          first
            | exact ⟨k + 1, u, s, n + 1, b, _, by omega, by go_num, rfl, rfl, rfl, by go_num, rfl, HN.out, HB3.out⟩
            | ((repeat apply Exists.intro); refine ⟨?_, rfl⟩; exact ⟨k + 1, u, s, n + 1, b, _, by omega, by go_num, rfl, rfl, rfl, by go_num, rfl, HN.out, HB3.out⟩)
        case measure => simp [intOf]; omega
      · have e117 : (((99 : UInt8).toNat : Int) == 117) = false := rfl
        have e110 : (((99 : UInt8).toNat : Int) == 110) = false := rfl
        have e98 : (((99 : UInt8).toNat : Int) == 98) = false := rfl
        have e115 : (((99 : UInt8).toNat : Int) == 115) = false := rfl
        obtain ⟨y, hy, hnext⟩ := HAT.out.text HX1.out (by decide)
        have hlt : s < nS := by have := (List.getElem?_eq_some_iff.1 hy).1; have := HLSS.out; omega
        have hil : (s : Int) < nS := by omega
        obtain ⟨b1, o1, rfl, hl1, hc1⟩ := HRS.out.at_ (j := s) (by rw [List.length_map, HLSS.out]; exact hlt)
        rw [List.getElem_map] at hc1
        have hyy : ss[s]'(by rw [HLSS.out]; exact hlt) = y := (List.getElem?_eq_some_iff.1 hy).2
        rw [hyy] at hc1
        have hft := HF.out.s y (List.mem_of_getElem? hy)
        simp only [if_neg (show ¬ (99 : UInt8) = 115 by decide)] at hnext
        have HN := Lib.hid (hnext y rfl hft)
        have hts : y.size ≤ 1000004 := by omega
        have hcy := (HBW.out.cell (p := ⟨b1, o1 + s, none⟩) hl1).trans hc1
        clear hy hl1 hc1 hnext hyy
        have hq3 : ¬ 9223372036854775807 < acc.size + y.size := by omega
        go_wp2_with fail
        go_roundw
        case rel =>
          first
            | exact ⟨k + 1, u, s + 1, n, b, _, by omega, by go_num, rfl, rfl, by go_num, rfl, rfl, HN.out, HB.out⟩
            | ((repeat apply Exists.intro); refine ⟨?_, rfl⟩; exact ⟨k + 1, u, s + 1, n, b, _, by omega, by go_num, rfl, rfl, by go_num, rfl, rfl, HN.out, HB.out⟩)
        case measure => simp [intOf]; omega
      · have e117 : (((114 : UInt8).toNat : Int) == 117) = false := rfl
        have e110 : (((114 : UInt8).toNat : Int) == 110) = false := rfl
        have e98 : (((114 : UInt8).toNat : Int) == 98) = false := rfl
        have e115 : (((114 : UInt8).toNat : Int) == 115) = false := rfl
        obtain ⟨y, hy, hnext⟩ := HAT.out.text HX1.out (by decide)
        have hlt : s < nS := by have := (List.getElem?_eq_some_iff.1 hy).1; have := HLSS.out; omega
        have hil : (s : Int) < nS := by omega
        obtain ⟨b1, o1, rfl, hl1, hc1⟩ := HRS.out.at_ (j := s) (by rw [List.length_map, HLSS.out]; exact hlt)
        rw [List.getElem_map] at hc1
        have hyy : ss[s]'(by rw [HLSS.out]; exact hlt) = y := (List.getElem?_eq_some_iff.1 hy).2
        rw [hyy] at hc1
        have hft := HF.out.s y (List.mem_of_getElem? hy)
        simp only [if_neg (show ¬ (114 : UInt8) = 115 by decide)] at hnext
        have HN := Lib.hid (hnext y rfl hft)
        have hts : y.size ≤ 1000004 := by omega
        have hcy := (HBW.out.cell (p := ⟨b1, o1 + s, none⟩) hl1).trans hc1
        clear hy hl1 hc1 hnext hyy
        have hq3 : ¬ 9223372036854775807 < acc.size + y.size := by omega
        go_wp2_with fail
        go_roundw
        case rel =>
          first
            | exact ⟨k + 1, u, s + 1, n, b, _, by omega, by go_num, rfl, rfl, by go_num, rfl, rfl, HN.out, HB.out⟩
            | ((repeat apply Exists.intro); refine ⟨?_, rfl⟩; exact ⟨k + 1, u, s + 1, n, b, _, by omega, by go_num, rfl, rfl, by go_num, rfl, rfl, HN.out, HB.out⟩)
        case measure => simp [intOf]; omega
    · obtain rfl : k = q := by omega
      have HLQ2 := Lib.hid HLQ.out
      have hd0 : decide (k < ls.size) = false := by have := HLQ2.out; simp; omega
      have hnk : ¬ k < ls.size := by have := HLQ2.out; omega
      have HAC := Lib.hid (show acc = mkS T by
        have := HAT.out.c; rw [List.drop_of_length_le (l := l) (by rw [HQ.out]; exact Nat.le_refl _)] at this
        rw [← this]; simp only [enc, List.append_nil]; exact (mkS_of acc).symm)
      go_wp2_with fail
      go_ret
      exact ⟨by rw [HT.out, HAC.out]; rfl, HBW.out⟩
theorem RefBytes_any (w : World) (m : Msg) (vu vs vn vb : Value) (hm : IsMsg w m vu vs vn vb) (hf : Fit m) :
    Calls Tryd.prog 31 #[.agg (mC m.kind vu vs vn vb)] w fun e w' => e = .returned (.string (mkS (bytesL m))) ∧ Below w.heap.size w w' := by
  by_cases hc : checkC m = 0
  · exact RefBytes_ok w m vu vs vn vb hm hf hc
  · exact RefBytes_no w m vu vs vn vb hm hf hc
end Go.Proofs.YtjfikbnfabdkoaaDoor.Mg
