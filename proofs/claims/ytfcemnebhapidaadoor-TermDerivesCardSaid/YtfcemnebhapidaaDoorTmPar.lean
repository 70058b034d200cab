/- reader.term: a term that is read in front. -/
import Derived.Test.YtfcemnebhapidaaDoorTmBd3
set_option linter.unusedVariables false
set_option linter.unusedSimpArgs false
namespace Go.Proofs.YtfcemnebhapidaaDoor.Te
open Go.RowKit Go.Proofs.YtfcemnebhapidaaDoor.Ow
theorem tblk_kept {w w' : World} {b g T : Nat} {cs : Array Value} (h : Rg.Blk w b T cs) (hg : w.grownBy w' (some g)) (hn : b ≠ g) : Rg.Blk w' b T cs := by
  unfold Rg.Blk at *
  rw [hg.block b (Array.getElem?_eq_some_iff.1 h).1 (fun e => hn (Option.some.inj e))]
  exact h
/-- the block made first is none of what was there -/
theorem gb_z {w W V : World} {b : Nat} (h : Gb w b W) (hg : W.grownBy V (some w.heap.size)) : Gb w b V :=
  ⟨hg.os.trans h.os, hg.tape.trans h.tape, hg.output.trans h.output, Nat.le_trans h.size hg.size, fun k hk hne => (hg.block k (Nat.lt_of_lt_of_le hk h.size) (fun e => by have e := Option.some.inj e; omega)).trans (h.block k hk hne)⟩
theorem own_some {w : World} {B n sz : Nat} {E : TypeId} {v : Value} {xs : List Value} (h : w.ownsRow B E sz v n xs) (hn : 0 < n) : ∃ g, v.ownBlock = some g := by
  obtain ⟨g, c, rfl, _⟩ := own_form h hn
  exact ⟨g, rfl⟩
/-- what stood from lo on stands as it stood -/
def Agr (lo : Nat) (Wx W : World) : Prop := Wx.heap.size ≤ W.heap.size ∧ ∀ k, lo ≤ k → k < Wx.heap.size → W.heap[k]? = Wx.heap[k]?
theorem Agr.refl (lo : Nat) (W : World) : Agr lo W W := ⟨Nat.le_refl _, fun _ _ _ => rfl⟩
theorem Agr.below {lo : Nat} {Wx W W' : World} (h : Agr lo Wx W) (hb : Below W.heap.size W W') : Agr lo Wx W' := ⟨Nat.le_trans h.1 hb.size, fun k h1 h2 => (hb.block k (Nat.lt_of_lt_of_le h2 h.1)).trans (h.2 k h1 h2)⟩
theorem Agr.grown {lo g : Nat} {Wx W W' : World} (h : Agr lo Wx W) (hg : W.grownBy W' (some g)) (hn : g < lo) : Agr lo Wx W' := ⟨Nat.le_trans h.1 hg.size, fun k h1 h2 => (hg.block k (Nat.lt_of_lt_of_le h2 h.1) (fun e => by have e := Option.some.inj e; omega)).trans (h.2 k h1 h2)⟩
theorem Agr.hi {lo g : Nat} {Wx W W' : World} (h : Agr lo Wx W) (hg : W.grownBy W' (some g)) (hn : Wx.heap.size ≤ g) : Agr lo Wx W' := ⟨Nat.le_trans h.1 hg.size, fun k h1 h2 => (hg.block k (Nat.lt_of_lt_of_le h2 h.1) (fun e => by have e := Option.some.inj e; omega)).trans (h.2 k h1 h2)⟩
theorem below_none {w w' : World} (h : w.grownBy w' none) : Below w.heap.size w w' := ⟨h.os, h.tape, h.output, h.size, fun k hk => h.block k hk (by simp)⟩
theorem gb_own {w W V : World} {b g : Nat} (h : Gb w b W) (hg : W.grownBy V (some g)) (hn : w.heap.size ≤ g) : Gb w b V :=
  ⟨hg.os.trans h.os, hg.tape.trans h.tape, hg.output.trans h.output, Nat.le_trans h.size hg.size, fun k hk hne => (hg.block k (Nat.lt_of_lt_of_le hk h.size) (fun e => by have e := Option.some.inj e; omega)).trans (h.block k hk hne)⟩
theorem mk2_len (k : Nat) (a b : Tm) : (mk2 k a b).txt.length = (Tm.two k a b).txt.length := by
  unfold mk2
  by_cases h : k = 4 ∧ b.txt < a.txt
  · rw [if_pos h]; unfold Tm.txt; simp <;> omega
  · rw [if_neg h]
theorem Prs.len {s : List UInt8} {t : Tm} (h : Prs s t) : t.txt.length = s.length := by
  induction h with
  | atom _ => rfl
  | one _ _ ih => unfold Tm.txt; simp [ih]
  | two _ _ _ _ i1 i2 => rw [mk2_len]; unfold Tm.txt; simp [i1, i2]
theorem pT_len {f : Nat} {s : List UInt8} {t : Tm} {r : List UInt8} (h : pT f s = some (t, r)) : t.txt.length + r.length = s.length ∧ t.wf := by
  obtain ⟨p, rfl, hp⟩ := pT_sound f s t r h
  exact ⟨by rw [hp.len, List.length_append], hp.wf⟩
/-- what term gives -/
def TPost (x : Option (Tm × List UInt8)) (w : World) (b : Nat) (e : Ending) (w' : World) : Prop :=
  match x with
  | some (t, rest) => ∃ p, e = .returned (.tuple #[.agg (tv t p), .bool true]) ∧ FT w.heap.size w' t p ∧ Rg.Blk w' b 74 #[.string (strB rest)] ∧ Gb w b w'
  | none => ∃ x y S, e = .returned (.tuple #[.agg #[.string x, .string y, .slice none 0 0], .bool false]) ∧ Rg.Blk w' b 74 #[.string S] ∧ Gb w b w'
theorem ts_own {Q : Tm → Value → Prop} {w : World} {B n : Nat} {v : Value} {l : List (Tm × Value)} (h : w.ownsRow B 31 3 v n (tcs l)) (hn : l.length = n) (h0 : 0 < n) (ht : ∀ x ∈ l, Q x.1 x.2) : TS Q w v (l.map (·.1)) := by
  obtain ⟨g, c, rfl, h1, h2, h3, h4⟩ := own_form h h0
  refine ⟨some ⟨g, 0, none⟩, c, l.map (·.2), by rw [List.length_map, hn], by rw [List.length_map, hn]; exact h1, h2, by simp, ?_, fun j t p hj hp => ?_⟩
  · have e : (l.map (·.1)).zip (l.map (·.2)) = l := by
      clear h hn ht
      induction l with
      | nil => rfl
      | cons x l ih => simp [ih]
    rw [e]
    exact rd_of_range (own_range h).1
  · rw [List.getElem?_map, Option.map_eq_some_iff] at hj hp
    obtain ⟨x, hx, rfl⟩ := hj
    obtain ⟨y, hy, rfl⟩ := hp
    rw [hx] at hy
    cases hy
    exact ht x (List.mem_of_getElem? hx)
theorem pT_atom {f : Nat} {s : List UInt8} (h : ∀ r, s.dropWhile aln ≠ 40 :: r) : pT (f + 1) s = if s.takeWhile aln ≠ [] ∧ (s.takeWhile aln).length ≤ 16 then some (.atom (s.takeWhile aln), s.dropWhile aln) else none := by
  unfold pT
  simp only
  all_goals
    split
    · rename_i r e
      exact absurd e (h r)
    · rfl
theorem pT_none {f : Nat} {s r : List UInt8} (h : s.dropWhile aln = 40 :: r) (hk : cnt (s.takeWhile aln) = 0) : pT (f + 1) s = none := by
  unfold cnt at hk
  unfold pT
  try simp only
  rw [h]
  try simp only
  split at hk
  · cases hk
  · rename_i h3
    split at hk
    · cases hk
    · rename_i h7
      rw [if_neg h3, if_neg h7]
theorem pT_one {f : Nat} {s r : List UInt8} (h : s.dropWhile aln = 40 :: r) (hk : numW (s.takeWhile aln) < 3) : pT (f + 1) s = match pT f r with
        | some (a, 41 :: r3) => some (.one (numW (s.takeWhile aln)) a, r3)
        | _ => none := by
  rw [pT]
  try simp only
  rw [h]
  try simp only
  rw [if_pos hk]
  rfl
theorem pT_two {f : Nat} {s r : List UInt8} (h : s.dropWhile aln = 40 :: r) (h3 : ¬ numW (s.takeWhile aln) < 3) (h7 : numW (s.takeWhile aln) < 7) : pT (f + 1) s = match pT f r with
        | some (a, 44 :: r3) =>
          match pT f r3 with
          | some (b, 41 :: r5) => some (mk2 (numW (s.takeWhile aln)) a b, r5)
          | _ => none
        | _ => none := by
  rw [pT]
  try simp only
  rw [h]
  try simp only
  rw [if_neg h3, if_pos h7]
  rfl
theorem split_one {a : Tm} {r2 : List UInt8} {α : Type} {f : Tm → List UInt8 → Option α} (h : ∀ r, r2 ≠ 41 :: r) : (match some (a, r2) with | some (a, 41 :: r3) => f a r3 | _ => none) = none := by
  split
  · rename_i e
    simp only [Option.some.injEq, Prod.mk.injEq] at e
    exact absurd e.2 (h _)
  · rfl
theorem split_comma {a : Tm} {r2 : List UInt8} {α : Type} {f : Tm → List UInt8 → Option α} (h : ∀ r, r2 ≠ 44 :: r) : (match some (a, r2) with | some (a, 44 :: r3) => f a r3 | _ => none) = none := by
  split
  · rename_i e
    simp only [Option.some.injEq, Prod.mk.injEq] at e
    exact absurd e.2 (h _)
  · rfl
set_option maxRecDepth 20000 in
set_option maxHeartbeats 16000000 in
theorem term_any : ∀ (f : Nat) (w : World) (b : Nat) (s : List UInt8), s.length < f → s.length ≤ 1000 → Rg.Blk w b 74 #[.string (strB s)] → Calls Tryd.prog 40 #[.pointer (some ⟨b, 0, none⟩)] w (TPost (pT f s) w b)
  | 0, w, b, s, h, _, _ => by omega
  | f + 1, w, b, s, hf, hs, hB => by
    have ih := term_any f
    have HBW := Lib.hid hB.lt
    have HWD := Lib.hid (word_any (w.alloc (.cells #[.string ⟨#[]⟩, .string ⟨#[]⟩, .slice none 0 0] 31)) b (strB s) (hB.alloc _) (by rw [strB_size]; omega))
    have HZ := Lib.hid (Rg.Blk.new w #[.string ⟨#[]⟩, .string ⟨#[]⟩, .slice none 0 0] 31)
    have HG := Lib.hid (show Gb w b (w.alloc (.cells #[.string ⟨#[]⟩, .string ⟨#[]⟩, .slice none 0 0] 31)) from (Gb.refl w b).lat ((Below.refl _ _).alloc (Nat.le_refl _) _))
    have HB := Lib.hid (hB.alloc (.cells #[.string ⟨#[]⟩, .string ⟨#[]⟩, .slice none 0 0] 31))
    have hzb : w.heap.size ≠ b := by have := hB.lt; omega
    have HRT := Lib.hid (run_take s)
    clear hB
    have WD : (strB s).data.toList = s := rfl
    rw [WD] at HWD
    clear WD
    obtain ⟨x, hx⟩ : ∃ x, s.takeWhile aln = x := ⟨_, rfl⟩
    obtain ⟨d, hd⟩ : ∃ d, s.dropWhile aln = d := ⟨_, rfl⟩
    have HXL := Lib.hid (show x.length ≤ 1000 by rw [← hx]; have := congrArg List.length (run_take s).1; rw [List.length_append] at this; omega)
    have HDL := Lib.hid (show d.length < f + 1 ∧ d.length ≤ 1000 by rw [← hd]; have := congrArg List.length (run_take s).1; rw [List.length_append] at this; omega)
    rw [hx, hd] at HWD
    by_cases h40 : ∀ r, d ≠ 40 :: r
    · have hno := h40
      have HPT := Lib.hid (pT_atom (f := f) (s := s) (by rw [hd]; exact h40))
      rw [hx, hd] at HPT
      clear hx hd h40
      go_enter Tryd.func40, Tryd.ntmps40
      go_upto_region 3 with (first
        | (go_at_call 51; refine HWD.out.mono ?_; rintro e W1 ⟨rfl, hB1, hg1⟩; skip; have HZx := Lib.hid (tblk_kept HZ.out hg1 hzb); clear HZ; have HZ := HZx; clear HZx; have HGx := Lib.hid (HG.out.trans hg1); clear HG; have HG := HGx; clear HGx; clear HB; have HB := Lib.hid hB1; clear hB1 hg1)
        | (go_at_call 52; refine (sign_no _ b 40 d hno HB.out).mono ?_; rintro e W1 ⟨rfl, hB1, hg1⟩; skip; have HZx := Lib.hid (tblk_kept HZ.out hg1 hzb); clear HZ; have HZ := HZx; clear HZx; have HGx := Lib.hid (HG.out.trans hg1); clear HG; have HG := HGx; clear HGx; clear HB; have HB := Lib.hid hB1; clear hB1 hg1))
      by_cases hxe : x = []
      · have h1 : ((strB x).toList == []) = true := by rw [strB_toList, hxe]; rfl
        have hp : pT (f + 1) s = none := by rw [HPT.out, if_neg (fun e => e.1 hxe)]
        have HP := Lib.hid hp
        clear hxe hp
        go_wp2_with (refine Cv.store_blk rfl 31 _ _ rfl w.heap.size #[.string ⟨#[97, 116, 111, 109]⟩, .string (strB x), .slice none 0 0] #[.string ⟨#[]⟩, .string ⟨#[]⟩, .slice none 0 0] 31 rfl rfl HZ.out (by kernel_rfl) rfl (by simp [Value.oneCell']) ?_; intro V hV hgV; have HV := Lib.hid hV; have HGV := Lib.hid hgV; clear hV hgV)
        have p0 := HV.out.cell 0 (v := .string ⟨#[97, 116, 111, 109]⟩) rfl
        have p1 := HV.out.cell 1 (v := .string (strB x)) rfl
        have p2 := HV.out.cell 2 (v := .slice none 0 0) rfl
        have hz6 := HV.out.lt
        rw [HP.out]
        refine bodyPost_ret (v := .tuple #[.agg #[.string ⟨#[97, 116, 111, 109]⟩, .string (strB x), .slice none 0 0], .bool false]) (by simp [results, Tryd.results40, go_sem, p0, p1, p2, hz6]) rfl ?_
        exact ⟨_, _, _, rfl, tblk_kept HB.out HGV.out (Ne.symm hzb), gb_z HG.out HGV.out⟩
      · have h1 : ((strB x).toList == []) = false := by rw [strB_toList, beq_eq_false_iff_ne]; exact hxe
        have hxs : (strB x).size = x.length := strB_size x
        by_cases h16 : x.length ≤ 16
        · have h2 : decide (x.length ≤ 16) = true := by simp; exact h16
          have h2i : decide ((x.length : Int) ≤ 16) = true := by simp; omega
          have hp : pT (f + 1) s = some (.atom x, d) := by rw [HPT.out, if_pos ⟨hxe, h16⟩]
          have HP := Lib.hid hp
          clear hxe hp
          go_wp2_with (refine Cv.store_blk rfl 31 _ _ rfl w.heap.size #[.string ⟨#[97, 116, 111, 109]⟩, .string (strB x), .slice none 0 0] #[.string ⟨#[]⟩, .string ⟨#[]⟩, .slice none 0 0] 31 rfl rfl HZ.out (by kernel_rfl) rfl (by simp [Value.oneCell']) ?_; intro V hV hgV; have HV := Lib.hid hV; have HGV := Lib.hid hgV; clear hV hgV)
          have p0 := HV.out.cell 0 (v := .string ⟨#[97, 116, 111, 109]⟩) rfl
          have p1 := HV.out.cell 1 (v := .string (strB x)) rfl
          have p2 := HV.out.cell 2 (v := .slice none 0 0) rfl
          have hz6 := HV.out.lt
          rw [HP.out]
          refine bodyPost_ret (v := .tuple #[.agg #[.string ⟨#[97, 116, 111, 109]⟩, .string (strB x), .slice none 0 0], .bool true]) (by simp [results, Tryd.results40, go_sem, p0, p1, p2, hz6]) rfl ?_
          exact ⟨.slice none 0 0, rfl, (fun _ _ _ => rfl), tblk_kept HB.out HGV.out (Ne.symm hzb), gb_z HG.out HGV.out⟩
        · have h2 : decide (x.length ≤ 16) = false := by simp; omega
          have h2i : decide ((x.length : Int) ≤ 16) = false := by simp; omega
          have hp : pT (f + 1) s = none := by rw [HPT.out, if_neg (fun e => h16 e.2)]
          have HP := Lib.hid hp
          clear hxe hp
          go_wp2_with (refine Cv.store_blk rfl 31 _ _ rfl w.heap.size #[.string ⟨#[97, 116, 111, 109]⟩, .string (strB x), .slice none 0 0] #[.string ⟨#[]⟩, .string ⟨#[]⟩, .slice none 0 0] 31 rfl rfl HZ.out (by kernel_rfl) rfl (by simp [Value.oneCell']) ?_; intro V hV hgV; have HV := Lib.hid hV; have HGV := Lib.hid hgV; clear hV hgV)
          have p0 := HV.out.cell 0 (v := .string ⟨#[97, 116, 111, 109]⟩) rfl
          have p1 := HV.out.cell 1 (v := .string (strB x)) rfl
          have p2 := HV.out.cell 2 (v := .slice none 0 0) rfl
          have hz6 := HV.out.lt
          rw [HP.out]
          refine bodyPost_ret (v := .tuple #[.agg #[.string ⟨#[97, 116, 111, 109]⟩, .string (strB x), .slice none 0 0], .bool false]) (by simp [results, Tryd.results40, go_sem, p0, p1, p2, hz6]) rfl ?_
          exact ⟨_, _, _, rfl, tblk_kept HB.out HGV.out (Ne.symm hzb), gb_z HG.out HGV.out⟩
    · obtain ⟨r, rfl⟩ : ∃ r, d = 40 :: r := by
        refine Classical.byContradiction fun h => h40 fun r e => h ⟨r, e⟩
      clear h40
      have HRL := Lib.hid (show r.length < f ∧ r.length ≤ 1000 by have := HDL.out; simp at this; omega)
      have HCN := Lib.hid (fun W => count_any W x)
      by_cases h3 : numW x < 3
      · obtain ⟨k, hk, hxk⟩ : ∃ k, k < 3 ∧ x = word k := ⟨numW x, h3, (word_numW (by omega)).symm⟩
        have HPT := Lib.hid (pT_one (f := f) (s := s) (r := r) hd (by rw [hx]; exact h3))
        rw [hx] at HPT
        clear hx h3 hd
        subst hxk
        rw [numW_word k (by omega)] at HPT
        rw [cnt_one hk] at HCN
        cases hpa : pT f r with
        | none =>
          have HIn := Lib.hid (True.intro)
          have HI := Lib.hid (show ∀ W, Rg.Blk W b 74 #[.string (strB r)] → Calls Tryd.prog 40 #[.pointer (some ⟨b, 0, none⟩)] W fun e w' => ∃ x y S, e = .returned (.tuple #[.agg #[.string x, .string y, .slice none 0 0], .bool false]) ∧ Rg.Blk w' b 74 #[.string S] ∧ Gb W b w' from fun W hW => by have := ih W b r (HRL.out).1 (HRL.out).2 hW; rw [hpa] at this; exact this)
          have HP := Lib.hid (show pT (f + 1) s = none by rw [HPT.out, hpa])
          clear hpa
          go_enter Tryd.func40, Tryd.ntmps40
          go_upto_region 6 with (first
            | (go_at_call 51; refine HWD.out.mono ?_; rintro e W1 ⟨rfl, hB1, hg1⟩; skip; have HZx := Lib.hid (tblk_kept HZ.out hg1 hzb); clear HZ; have HZ := HZx; clear HZx; have HGx := Lib.hid (HG.out.trans hg1); clear HG; have HG := HGx; clear HGx; clear HB; have HB := Lib.hid hB1; clear hB1 hg1)
            | (go_at_call 52; refine (sign_yes _ b 40 r HB.out).mono ?_; rintro e W1 ⟨rfl, hB1, hg1⟩; skip; have HZx := Lib.hid (tblk_kept HZ.out hg1 hzb); clear HZ; have HZ := HZx; clear HZx; have HGx := Lib.hid (HG.out.trans hg1); clear HG; have HG := HGx; clear HGx; clear HB; have HB := Lib.hid hB1; clear hB1 hg1)
            | (go_at_call 42; refine (HCN.out _).mono ?_; rintro e W3 ⟨rfl, rfl⟩; skip))
          go_upto_region 7 with fail
          generalize hv0 : (Value.slice none 0 0) = v0
          have HV0 := Lib.hid hv0
          clear hv0
          refine wp_loop_rounds 2 ?_
          rw [rounds_succ]
          go_wp2_with (first
            | (go_at_call 40; refine (HI.out _ HB.out).mono ?_; rintro e W2 ⟨xn, yn, Sn, rfl, hb2, hg2⟩; skip; have HZx := Lib.hid (tblk_kept HZ.out hg2 hzb); clear HZ; have HZ := HZx; clear HZx; have HGx := Lib.hid (HG.out.trans hg2); clear HG; have HG := HGx; clear HGx; clear HB; have HB := Lib.hid hb2; clear hb2 hg2)
            | (refine Rg.store_fresh rfl 31 _ _ rfl #[.string xn, .string yn, .slice none 0 0] _ 31 rfl rfl (by kernel_rfl) rfl (by simp [Value.oneCell']) ?_; intro Y hY hbY; have HY := Lib.hid hY; have HZx := Lib.hid (HZ.out.below hbY HZ.out.lt); clear HZ; have HZ := HZx; clear HZx; have HBx := Lib.hid (HB.out.below hbY HB.out.lt); clear HB; have HB := HBx; clear HBx; have HGx := Lib.hid (HG.out.lat hbY); clear HG; have HG := HGx; clear HGx; clear hY hbY)
            | (refine Cv.store_blk rfl 31 _ _ rfl w.heap.size #[.string ⟨#[]⟩, .string ⟨#[]⟩, .slice none 0 0] #[.string ⟨#[]⟩, .string ⟨#[]⟩, .slice none 0 0] 31 rfl rfl HZ.out (by kernel_rfl) rfl (by simp [Value.oneCell']) ?_; intro V hV hgV; have HV := Lib.hid hV; have HGV := Lib.hid hgV; clear hV hgV))
          have p0 := HV.out.cell 0 (v := .string ⟨#[]⟩) rfl
          have p1 := HV.out.cell 1 (v := .string ⟨#[]⟩) rfl
          have p2 := HV.out.cell 2 (v := .slice none 0 0) rfl
          have hz6 := HV.out.lt
          rw [HP.out]
          refine bodyPost_ret (v := .tuple #[.agg #[.string ⟨#[]⟩, .string ⟨#[]⟩, .slice none 0 0], .bool false]) (by simp [results, Tryd.results40, go_sem, p0, p1, p2, hz6]) rfl ?_
          exact ⟨_, _, _, rfl, tblk_kept HB.out HGV.out (Ne.symm hzb), gb_z HG.out HGV.out⟩
        | some y =>
          obtain ⟨a, r2⟩ := y
          have HI := Lib.hid (show ∀ W, Rg.Blk W b 74 #[.string (strB r)] → Calls Tryd.prog 40 #[.pointer (some ⟨b, 0, none⟩)] W fun e w' => ∃ p, e = .returned (.tuple #[.agg (tv a p), .bool true]) ∧ FT W.heap.size w' a p ∧ Rg.Blk w' b 74 #[.string (strB r2)] ∧ Gb W b w' from fun W hW => by have := ih W b r (HRL.out).1 (HRL.out).2 hW; rw [hpa] at this; exact this)
          have HAL := Lib.hid (show a.txt.length ≤ 5000 ∧ r2.length < f ∧ r2.length ≤ 1000 by have h1 := (pT_len hpa).1; have h2 := HRL.out; omega)
          go_enter Tryd.func40, Tryd.ntmps40
          go_upto_region 6 with (first
            | (go_at_call 51; refine HWD.out.mono ?_; rintro e W1 ⟨rfl, hB1, hg1⟩; skip; have HZx := Lib.hid (tblk_kept HZ.out hg1 hzb); clear HZ; have HZ := HZx; clear HZx; have HGx := Lib.hid (HG.out.trans hg1); clear HG; have HG := HGx; clear HGx; clear HB; have HB := Lib.hid hB1; clear hB1 hg1)
            | (go_at_call 52; refine (sign_yes _ b 40 r HB.out).mono ?_; rintro e W1 ⟨rfl, hB1, hg1⟩; skip; have HZx := Lib.hid (tblk_kept HZ.out hg1 hzb); clear HZ; have HZ := HZx; clear HZx; have HGx := Lib.hid (HG.out.trans hg1); clear HG; have HG := HGx; clear HGx; clear HB; have HB := Lib.hid hB1; clear hB1 hg1)
            | (go_at_call 42; refine (HCN.out _).mono ?_; rintro e W3 ⟨rfl, rfl⟩; skip))
          go_upto_region 7 with fail
          generalize hv0 : (Value.slice none 0 0) = v0
          have HV0 := Lib.hid hv0
          clear hv0
          refine wp_loop_rounds 2 ?_
          rw [rounds_succ]
          go_upto_region 14 with (first
            | (go_at_call 40; refine (HI.out _ HB.out).mono ?_; rintro e W2 ⟨pa, rfl, htp, hb2, hg2⟩; obtain ⟨Aa, ca, rfl⟩ := htp.tp.slice; skip; have HTa := Lib.hid (htp.mono HZ.out.lt); have HAa := Lib.hid (Agr.refl (w.heap.size + 1) W2); have HZx := Lib.hid (tblk_kept HZ.out hg2 hzb); clear HZ; have HZ := HZx; clear HZx; have HGx := Lib.hid (HG.out.trans hg2); clear HG; have HG := HGx; clear HGx; clear HB; have HB := Lib.hid hb2; clear htp hb2 hg2)
            | (refine Rg.store_fresh rfl 31 _ _ rfl #[.string (strB (Tm.knd a)), .string (strB (Tm.txt a)), .slice Aa (Tm.prt a).length ca] _ 31 rfl rfl (by kernel_rfl) rfl (by simp [Value.oneCell']) ?_; intro Y hY hbY; have HY := Lib.hid hY; have HZx := Lib.hid (HZ.out.below hbY HZ.out.lt); clear HZ; have HZ := HZx; clear HZx; have HBx := Lib.hid (HB.out.below hbY HB.out.lt); clear HB; have HB := HBx; clear HBx; have HGx := Lib.hid (HG.out.lat hbY); clear HG; have HG := HGx; clear HGx; have HAax := Lib.hid (HAa.out.below hbY); clear HAa; have HAa := HAax; clear HAax; clear hY hbY))
          have HOY := Lib.hid (show (Y.alloc (.cells #[.string (strB (Tm.knd a)), .string (strB (Tm.txt a)), .slice Aa (Tm.prt a).length ca] 31)).ownsRow (w.heap.size + 1) 31 3 v0 0 [] from World.ownsRow.alloc ((by rw [← HV0.out]; exact World.ownsRow_nil Y (w.heap.size + 1) 31 3)) _)
          have HRY := Lib.hid (show Rd (Y.alloc (.cells #[.string (strB (Tm.knd a)), .string (strB (Tm.txt a)), .slice Aa (Tm.prt a).length ca] 31)) (some ⟨Y.heap.size, 0, none⟩) (tcs [(a, Value.slice Aa (Tm.prt a).length ca)]) from fun j v hv => ⟨Y.heap.size, 0, rfl, by simp, by rw [Nat.zero_add]; exact (Rg.Blk.new Y #[.string (strB (Tm.knd a)), .string (strB (Tm.txt a)), .slice Aa (Tm.prt a).length ca] 31).cell j (by rw [tcs_one] at hv; rw [← hv]; simp [tcl])⟩)
          have hbA : Below Y.heap.size Y (Y.alloc (.cells #[.string (strB (Tm.knd a)), .string (strB (Tm.txt a)), .slice Aa (Tm.prt a).length ca] 31)) := (Below.refl _ _).alloc (Nat.le_refl _) _
          have HON := Lib.hid (tcs_oneCell [(a, Value.slice Aa (Tm.prt a).length ca)] (fun q hq => by simp at hq; subst hq; rfl))
          have HYB := Lib.hid (HY.out.below hbA HY.out.lt)
          have HZx := Lib.hid (HZ.out.below hbA HZ.out.lt); clear HZ; have HZ := HZx; clear HZx; have HBx := Lib.hid (HB.out.below hbA HB.out.lt); clear HB; have HB := HBx; clear HBx; have HGx := Lib.hid (HG.out.lat hbA); clear HG; have HG := HGx; clear HGx; have HAax := Lib.hid (HAa.out.below hbA); clear HAa; have HAa := HAax; clear HAax
          clear hbA
          have HA2 := HAa
          have HWZ := Lib.hid (show w.heap.size + 1 ≤ (Y.alloc (.cells #[.string (strB (Tm.knd a)), .string (strB (Tm.txt a)), .slice Aa (Tm.prt a).length ca] 31)).heap.size from HZ.out.lt)
          go_wp2_with (first
            | (refine Cv.load_cells rfl 31 _ rfl _ 0 rfl #[.string (strB (Tm.knd a)), .string (strB (Tm.txt a)), .slice Aa (Tm.prt a).length ca] _ (fun j v hv => by rw [Nat.zero_add]; exact HY.out.cell j hv) Tryd.underlying31 rfl (by kernel_rfl) ?_; skip)
            | (refine appN rfl _ _ 29 rfl Tryd.underlying29 infoT rfl (by decide) (by decide) HOY.out rfl rfl (show (tcs [(a, Value.slice Aa (Tm.prt a).length ca)]).length = 1 * 3 from tcs_length _) HRY.out HON.out (by decide) HWZ.out ?_; intro v6 W4 h2 h3 h4; have hn0 : v0.ownBlock = none := (by rw [← HV0.out]; rfl); rw [hn0] at h3 h4; have hb4 := below_none h3; have HZx := Lib.hid (HZ.out.below hb4 HZ.out.lt); clear HZ; have HZ := HZx; clear HZx; have HBx := Lib.hid (HB.out.below hb4 HB.out.lt); clear HB; have HB := HBx; clear HBx; have HGx := Lib.hid (HG.out.lat hb4); clear HG; have HG := HGx; clear HGx; have HAax := Lib.hid (HAa.out.below hb4); clear HAa; have HAa := HAax; clear HAax; clear hb4; have HO := Lib.hid h2; have HG6 := Lib.hid (show ∀ g, Value.ownBlock v6 = some g → W2.heap.size ≤ g from fun g hg => by rcases h4 with h4 | h4; (rw [h4] at hg; cases hg); (rw [h4] at hg; have hg := Option.some.inj hg; have h8 := HA2.out.1; rw [← hg]; exact h8)); clear h2 h3 h4))
          rw [rounds_succ]
          by_cases h41 : ∀ q, r2 ≠ 41 :: q
          · have hno := h41
            have HP := Lib.hid (show pT (f + 1) s = none from by rw [HPT.out, hpa]; exact split_one h41)
            clear h41
            go_wp2_with (first
              | (go_at_call 52; refine (sign_no _ b 41 r2 hno HB.out).mono ?_; rintro e W1 ⟨rfl, hB1, hg1⟩; skip; have HZx := Lib.hid (tblk_kept HZ.out hg1 hzb); clear HZ; have HZ := HZx; clear HZx; have HGx := Lib.hid (HG.out.trans hg1); clear HG; have HG := HGx; clear HGx; have HAax := Lib.hid (HAa.out.grown hg1 (by have := HBW.out; omega)); clear HAa; have HAa := HAax; clear HAax; have HOx := Lib.hid (World.ownsRow.kept HO.out hg1 (.inr (fun e => by have := (World.ownsRow.lt HO.out _ e).1; have := HBW.out; omega))); clear HO; have HO := HOx; clear HOx; clear HB; have HB := Lib.hid hB1; clear hB1 hg1)
              | (refine Cv.store_blk rfl 31 _ _ rfl w.heap.size #[.string ⟨#[]⟩, .string ⟨#[]⟩, .slice none 0 0] #[.string ⟨#[]⟩, .string ⟨#[]⟩, .slice none 0 0] 31 rfl rfl HZ.out (by kernel_rfl) rfl (by simp [Value.oneCell']) ?_; intro V hV hgV; have HV := Lib.hid hV; have HGV := Lib.hid hgV; clear hV hgV))
            have p0 := HV.out.cell 0 (v := .string ⟨#[]⟩) rfl
            have p1 := HV.out.cell 1 (v := .string ⟨#[]⟩) rfl
            have p2 := HV.out.cell 2 (v := .slice none 0 0) rfl
            have hz6 := HV.out.lt
            rw [HP.out]
            refine bodyPost_ret (v := .tuple #[.agg #[.string ⟨#[]⟩, .string ⟨#[]⟩, .slice none 0 0], .bool false]) (by simp [results, Tryd.results40, go_sem, p0, p1, p2, hz6]) rfl ?_
            exact ⟨_, _, _, rfl, tblk_kept HB.out HGV.out (Ne.symm hzb), gb_z HG.out HGV.out⟩
          · obtain ⟨r9, hr9⟩ : ∃ q, r2 = 41 :: q := Classical.byContradiction fun h => h41 fun q e => h ⟨q, e⟩
            clear h41
            have HP := Lib.hid (show pT (f + 1) s = some ((Tm.one k a), r9) from by rw [HPT.out, hpa, hr9]; rfl)
            subst hr9
            go_upto_region 18 with (go_at_call 52; refine (sign_yes _ b 41 r9 HB.out).mono ?_; rintro e W1 ⟨rfl, hB1, hg1⟩; skip; have HZx := Lib.hid (tblk_kept HZ.out hg1 hzb); clear HZ; have HZ := HZx; clear HZx; have HGx := Lib.hid (HG.out.trans hg1); clear HG; have HG := HGx; clear HGx; have HAax := Lib.hid (HAa.out.grown hg1 (by have := HBW.out; omega)); clear HAa; have HAa := HAax; clear HAax; have HOx := Lib.hid (World.ownsRow.kept HO.out hg1 (.inr (fun e => by have := (World.ownsRow.lt HO.out _ e).1; have := HBW.out; omega))); clear HO; have HO := HOx; clear HOx; clear HB; have HB := Lib.hid hB1; clear hB1 hg1)
            have HTS := Lib.hid (show TS (FT (w.heap.size + 1) W1) W1 v6 [a] from ts_own (l := [(a, Value.slice Aa (Tm.prt a).length ca)]) (n := 1) HO.out rfl (by decide) (fun q hq => by
              simp at hq
              subst hq; exact HTa.out.on HAa.out.1 HAa.out.2))
            go_wp2_with (first
              | (go_at_call 35; refine (buildF_one W1 HZ.out.lt v6 a k hk HTS.out HAL.out.1).mono ?_; rintro e W5 ⟨pr, rfl, hft, hb5⟩; obtain ⟨Ar, cr, rfl⟩ := hft.tp.slice; skip; have HZx := Lib.hid (HZ.out.below hb5 HZ.out.lt); clear HZ; have HZ := HZx; clear HZx; have HBx := Lib.hid (HB.out.below hb5 HB.out.lt); clear HB; have HB := HBx; clear HBx; have HGx := Lib.hid (HG.out.lat hb5); clear HG; have HG := HGx; clear HGx; have HTr := Lib.hid hft; clear hft hb5)
              | (refine Cv.store_blk rfl 31 _ _ rfl w.heap.size #[.string (strB (Tm.knd (Tm.one k a))), .string (strB (Tm.txt (Tm.one k a))), .slice Ar (Tm.prt (Tm.one k a)).length cr] #[.string ⟨#[]⟩, .string ⟨#[]⟩, .slice none 0 0] 31 rfl rfl HZ.out (by kernel_rfl) rfl (by simp [Value.oneCell']) ?_; intro V hV hgV; have HV := Lib.hid hV; have HGV := Lib.hid hgV; clear hV hgV))
            have p0 := HV.out.cell 0 (v := .string (strB (Tm.knd (Tm.one k a)))) rfl
            have p1 := HV.out.cell 1 (v := .string (strB (Tm.txt (Tm.one k a)))) rfl
            have p2 := HV.out.cell 2 (v := .slice Ar (Tm.prt (Tm.one k a)).length cr) rfl
            have hz6 := HV.out.lt
            rw [HP.out]
            refine bodyPost_ret (v := .tuple #[.agg (tv (Tm.one k a) (.slice Ar (Tm.prt (Tm.one k a)).length cr)), .bool true]) (by simp [tv, results, Tryd.results40, go_sem, p0, p1, p2, hz6]) rfl ?_
            exact ⟨_, rfl, (HTr.out.on HGV.out.size (fun k h1 h2 => HGV.out.block k h2 (fun e => by have e := Option.some.inj e; omega))).mono (Nat.le_succ _), tblk_kept HB.out HGV.out (Ne.symm hzb), gb_z HG.out HGV.out⟩
      · by_cases h7 : numW x < 7
        · obtain ⟨k, hk3, hk7, hxk⟩ : ∃ k, 3 ≤ k ∧ k < 7 ∧ x = word k := ⟨numW x, by omega, h7, (word_numW h7).symm⟩
          have HPT := Lib.hid (pT_two (f := f) (s := s) (r := r) hd (by rw [hx]; exact h3) (by rw [hx]; exact h7))
          rw [hx] at HPT
          clear hx h3 h7 hd
          subst hxk
          rw [numW_word k hk7] at HPT
          rw [cnt_two hk3 hk7] at HCN
          cases hpa : pT f r with
          | none =>
            have HI := Lib.hid (show ∀ W, Rg.Blk W b 74 #[.string (strB r)] → Calls Tryd.prog 40 #[.pointer (some ⟨b, 0, none⟩)] W fun e w' => ∃ x y S, e = .returned (.tuple #[.agg #[.string x, .string y, .slice none 0 0], .bool false]) ∧ Rg.Blk w' b 74 #[.string S] ∧ Gb W b w' from fun W hW => by have := ih W b r (HRL.out).1 (HRL.out).2 hW; rw [hpa] at this; exact this)
            have HP := Lib.hid (show pT (f + 1) s = none by rw [HPT.out, hpa])
            clear hpa
            go_enter Tryd.func40, Tryd.ntmps40
            go_upto_region 6 with (first
              | (go_at_call 51; refine HWD.out.mono ?_; rintro e W1 ⟨rfl, hB1, hg1⟩; skip; have HZx := Lib.hid (tblk_kept HZ.out hg1 hzb); clear HZ; have HZ := HZx; clear HZx; have HGx := Lib.hid (HG.out.trans hg1); clear HG; have HG := HGx; clear HGx; clear HB; have HB := Lib.hid hB1; clear hB1 hg1)
              | (go_at_call 52; refine (sign_yes _ b 40 r HB.out).mono ?_; rintro e W1 ⟨rfl, hB1, hg1⟩; skip; have HZx := Lib.hid (tblk_kept HZ.out hg1 hzb); clear HZ; have HZ := HZx; clear HZx; have HGx := Lib.hid (HG.out.trans hg1); clear HG; have HG := HGx; clear HGx; clear HB; have HB := Lib.hid hB1; clear hB1 hg1)
              | (go_at_call 42; refine (HCN.out _).mono ?_; rintro e W3 ⟨rfl, rfl⟩; skip))
            go_upto_region 7 with fail
            generalize hv0 : (Value.slice none 0 0) = v0
            have HV0 := Lib.hid hv0
            clear hv0
            refine wp_loop_rounds 3 ?_
            rw [rounds_succ]
            go_wp2_with (first
              | (go_at_call 40; refine (HI.out _ HB.out).mono ?_; rintro e W2 ⟨xn, yn, Sn, rfl, hb2, hg2⟩; skip; have HZx := Lib.hid (tblk_kept HZ.out hg2 hzb); clear HZ; have HZ := HZx; clear HZx; have HGx := Lib.hid (HG.out.trans hg2); clear HG; have HG := HGx; clear HGx; clear HB; have HB := Lib.hid hb2; clear hb2 hg2)
              | (refine Rg.store_fresh rfl 31 _ _ rfl #[.string xn, .string yn, .slice none 0 0] _ 31 rfl rfl (by kernel_rfl) rfl (by simp [Value.oneCell']) ?_; intro Y hY hbY; have HY := Lib.hid hY; have HZx := Lib.hid (HZ.out.below hbY HZ.out.lt); clear HZ; have HZ := HZx; clear HZx; have HBx := Lib.hid (HB.out.below hbY HB.out.lt); clear HB; have HB := HBx; clear HBx; have HGx := Lib.hid (HG.out.lat hbY); clear HG; have HG := HGx; clear HGx; clear hY hbY)
              | (refine Cv.store_blk rfl 31 _ _ rfl w.heap.size #[.string ⟨#[]⟩, .string ⟨#[]⟩, .slice none 0 0] #[.string ⟨#[]⟩, .string ⟨#[]⟩, .slice none 0 0] 31 rfl rfl HZ.out (by kernel_rfl) rfl (by simp [Value.oneCell']) ?_; intro V hV hgV; have HV := Lib.hid hV; have HGV := Lib.hid hgV; clear hV hgV))
            have p0 := HV.out.cell 0 (v := .string ⟨#[]⟩) rfl
            have p1 := HV.out.cell 1 (v := .string ⟨#[]⟩) rfl
            have p2 := HV.out.cell 2 (v := .slice none 0 0) rfl
            have hz6 := HV.out.lt
            rw [HP.out]
            refine bodyPost_ret (v := .tuple #[.agg #[.string ⟨#[]⟩, .string ⟨#[]⟩, .slice none 0 0], .bool false]) (by simp [results, Tryd.results40, go_sem, p0, p1, p2, hz6]) rfl ?_
            exact ⟨_, _, _, rfl, tblk_kept HB.out HGV.out (Ne.symm hzb), gb_z HG.out HGV.out⟩
          | some y =>
            obtain ⟨a, r2⟩ := y
            have HI := Lib.hid (show ∀ W, Rg.Blk W b 74 #[.string (strB r)] → Calls Tryd.prog 40 #[.pointer (some ⟨b, 0, none⟩)] W fun e w' => ∃ p, e = .returned (.tuple #[.agg (tv a p), .bool true]) ∧ FT W.heap.size w' a p ∧ Rg.Blk w' b 74 #[.string (strB r2)] ∧ Gb W b w' from fun W hW => by have := ih W b r (HRL.out).1 (HRL.out).2 hW; rw [hpa] at this; exact this)
            have HAL := Lib.hid (show a.txt.length ≤ 5000 ∧ r2.length < f ∧ r2.length ≤ 1000 by have h1 := (pT_len hpa).1; have h2 := HRL.out; omega)
            go_enter Tryd.func40, Tryd.ntmps40
            go_upto_region 6 with (first
              | (go_at_call 51; refine HWD.out.mono ?_; rintro e W1 ⟨rfl, hB1, hg1⟩; skip; have HZx := Lib.hid (tblk_kept HZ.out hg1 hzb); clear HZ; have HZ := HZx; clear HZx; have HGx := Lib.hid (HG.out.trans hg1); clear HG; have HG := HGx; clear HGx; clear HB; have HB := Lib.hid hB1; clear hB1 hg1)
              | (go_at_call 52; refine (sign_yes _ b 40 r HB.out).mono ?_; rintro e W1 ⟨rfl, hB1, hg1⟩; skip; have HZx := Lib.hid (tblk_kept HZ.out hg1 hzb); clear HZ; have HZ := HZx; clear HZx; have HGx := Lib.hid (HG.out.trans hg1); clear HG; have HG := HGx; clear HGx; clear HB; have HB := Lib.hid hB1; clear hB1 hg1)
              | (go_at_call 42; refine (HCN.out _).mono ?_; rintro e W3 ⟨rfl, rfl⟩; skip))
            go_upto_region 7 with fail
            generalize hv0 : (Value.slice none 0 0) = v0
            have HV0 := Lib.hid hv0
            clear hv0
            refine wp_loop_rounds 3 ?_
            rw [rounds_succ]
            go_upto_region 14 with (first
              | (go_at_call 40; refine (HI.out _ HB.out).mono ?_; rintro e W2 ⟨pa, rfl, htp, hb2, hg2⟩; obtain ⟨Aa, ca, rfl⟩ := htp.tp.slice; skip; have HTa := Lib.hid (htp.mono HZ.out.lt); have HAa := Lib.hid (Agr.refl (w.heap.size + 1) W2); have HZx := Lib.hid (tblk_kept HZ.out hg2 hzb); clear HZ; have HZ := HZx; clear HZx; have HGx := Lib.hid (HG.out.trans hg2); clear HG; have HG := HGx; clear HGx; clear HB; have HB := Lib.hid hb2; clear htp hb2 hg2)
              | (refine Rg.store_fresh rfl 31 _ _ rfl #[.string (strB (Tm.knd a)), .string (strB (Tm.txt a)), .slice Aa (Tm.prt a).length ca] _ 31 rfl rfl (by kernel_rfl) rfl (by simp [Value.oneCell']) ?_; intro Y hY hbY; have HY := Lib.hid hY; have HZx := Lib.hid (HZ.out.below hbY HZ.out.lt); clear HZ; have HZ := HZx; clear HZx; have HBx := Lib.hid (HB.out.below hbY HB.out.lt); clear HB; have HB := HBx; clear HBx; have HGx := Lib.hid (HG.out.lat hbY); clear HG; have HG := HGx; clear HGx; have HAax := Lib.hid (HAa.out.below hbY); clear HAa; have HAa := HAax; clear HAax; clear hY hbY))
            have HOY := Lib.hid (show (Y.alloc (.cells #[.string (strB (Tm.knd a)), .string (strB (Tm.txt a)), .slice Aa (Tm.prt a).length ca] 31)).ownsRow (w.heap.size + 1) 31 3 v0 0 [] from World.ownsRow.alloc ((by rw [← HV0.out]; exact World.ownsRow_nil Y (w.heap.size + 1) 31 3)) _)
            have HRY := Lib.hid (show Rd (Y.alloc (.cells #[.string (strB (Tm.knd a)), .string (strB (Tm.txt a)), .slice Aa (Tm.prt a).length ca] 31)) (some ⟨Y.heap.size, 0, none⟩) (tcs [(a, Value.slice Aa (Tm.prt a).length ca)]) from fun j v hv => ⟨Y.heap.size, 0, rfl, by simp, by rw [Nat.zero_add]; exact (Rg.Blk.new Y #[.string (strB (Tm.knd a)), .string (strB (Tm.txt a)), .slice Aa (Tm.prt a).length ca] 31).cell j (by rw [tcs_one] at hv; rw [← hv]; simp [tcl])⟩)
            have hbA : Below Y.heap.size Y (Y.alloc (.cells #[.string (strB (Tm.knd a)), .string (strB (Tm.txt a)), .slice Aa (Tm.prt a).length ca] 31)) := (Below.refl _ _).alloc (Nat.le_refl _) _
            have HON := Lib.hid (tcs_oneCell [(a, Value.slice Aa (Tm.prt a).length ca)] (fun q hq => by simp at hq; subst hq; rfl))
            have HYB := Lib.hid (HY.out.below hbA HY.out.lt)
            have HZx := Lib.hid (HZ.out.below hbA HZ.out.lt); clear HZ; have HZ := HZx; clear HZx; have HBx := Lib.hid (HB.out.below hbA HB.out.lt); clear HB; have HB := HBx; clear HBx; have HGx := Lib.hid (HG.out.lat hbA); clear HG; have HG := HGx; clear HGx; have HAax := Lib.hid (HAa.out.below hbA); clear HAa; have HAa := HAax; clear HAax
            clear hbA
            have HA2 := HAa
            have HWZ := Lib.hid (show w.heap.size + 1 ≤ (Y.alloc (.cells #[.string (strB (Tm.knd a)), .string (strB (Tm.txt a)), .slice Aa (Tm.prt a).length ca] 31)).heap.size from HZ.out.lt)
            go_wp2_with (first
              | (refine Cv.load_cells rfl 31 _ rfl _ 0 rfl #[.string (strB (Tm.knd a)), .string (strB (Tm.txt a)), .slice Aa (Tm.prt a).length ca] _ (fun j v hv => by rw [Nat.zero_add]; exact HY.out.cell j hv) Tryd.underlying31 rfl (by kernel_rfl) ?_; skip)
              | (refine appN rfl _ _ 29 rfl Tryd.underlying29 infoT rfl (by decide) (by decide) HOY.out rfl rfl (show (tcs [(a, Value.slice Aa (Tm.prt a).length ca)]).length = 1 * 3 from tcs_length _) HRY.out HON.out (by decide) HWZ.out ?_; intro v6 W4 h2 h3 h4; have hn0 : v0.ownBlock = none := (by rw [← HV0.out]; rfl); rw [hn0] at h3 h4; have hb4 := below_none h3; have HZx := Lib.hid (HZ.out.below hb4 HZ.out.lt); clear HZ; have HZ := HZx; clear HZx; have HBx := Lib.hid (HB.out.below hb4 HB.out.lt); clear HB; have HB := HBx; clear HBx; have HGx := Lib.hid (HG.out.lat hb4); clear HG; have HG := HGx; clear HGx; have HAax := Lib.hid (HAa.out.below hb4); clear HAa; have HAa := HAax; clear HAax; clear hb4; have HO := Lib.hid h2; have HG6 := Lib.hid (show ∀ g, Value.ownBlock v6 = some g → W2.heap.size ≤ g from fun g hg => by rcases h4 with h4 | h4; (rw [h4] at hg; cases hg); (rw [h4] at hg; have hg := Option.some.inj hg; have h8 := HA2.out.1; rw [← hg]; exact h8)); clear h2 h3 h4))
            rw [rounds_succ]
            by_cases h44 : ∀ q, r2 ≠ 44 :: q
            · have hno := h44
              have HP := Lib.hid (show pT (f + 1) s = none by rw [HPT.out, hpa]; exact split_comma h44)
              clear h44
              go_wp2_with (first
                | (go_at_call 52; refine (sign_no _ b 44 r2 hno HB.out).mono ?_; rintro e W1 ⟨rfl, hB1, hg1⟩; skip; have HZx := Lib.hid (tblk_kept HZ.out hg1 hzb); clear HZ; have HZ := HZx; clear HZx; have HGx := Lib.hid (HG.out.trans hg1); clear HG; have HG := HGx; clear HGx; have HAax := Lib.hid (HAa.out.grown hg1 (by have := HBW.out; omega)); clear HAa; have HAa := HAax; clear HAax; have HOx := Lib.hid (World.ownsRow.kept HO.out hg1 (.inr (fun e => by have := (World.ownsRow.lt HO.out _ e).1; have := HBW.out; omega))); clear HO; have HO := HOx; clear HOx; clear HB; have HB := Lib.hid hB1; clear hB1 hg1)
                | (refine Cv.store_blk rfl 31 _ _ rfl w.heap.size #[.string ⟨#[]⟩, .string ⟨#[]⟩, .slice none 0 0] #[.string ⟨#[]⟩, .string ⟨#[]⟩, .slice none 0 0] 31 rfl rfl HZ.out (by kernel_rfl) rfl (by simp [Value.oneCell']) ?_; intro V hV hgV; have HV := Lib.hid hV; have HGV := Lib.hid hgV; clear hV hgV))
              have p0 := HV.out.cell 0 (v := .string ⟨#[]⟩) rfl
              have p1 := HV.out.cell 1 (v := .string ⟨#[]⟩) rfl
              have p2 := HV.out.cell 2 (v := .slice none 0 0) rfl
              have hz6 := HV.out.lt
              rw [HP.out]
              refine bodyPost_ret (v := .tuple #[.agg #[.string ⟨#[]⟩, .string ⟨#[]⟩, .slice none 0 0], .bool false]) (by simp [results, Tryd.results40, go_sem, p0, p1, p2, hz6]) rfl ?_
              exact ⟨_, _, _, rfl, tblk_kept HB.out HGV.out (Ne.symm hzb), gb_z HG.out HGV.out⟩
            · obtain ⟨r3, hr3⟩ : ∃ q, r2 = 44 :: q := Classical.byContradiction fun h => h44 fun q e => h ⟨q, e⟩
              clear h44
              subst hr3
              have HRL3 := Lib.hid (show r3.length < f ∧ r3.length ≤ 1000 by have := HAL.out; simp at this; omega)
              cases hpb : pT f r3 with
              | none =>
                have HJ := Lib.hid (show ∀ W, Rg.Blk W b 74 #[.string (strB r3)] → Calls Tryd.prog 40 #[.pointer (some ⟨b, 0, none⟩)] W fun e w' => ∃ x y S, e = .returned (.tuple #[.agg #[.string x, .string y, .slice none 0 0], .bool false]) ∧ Rg.Blk w' b 74 #[.string S] ∧ Gb W b w' from fun W hW => by have := ih W b r3 (HRL3.out).1 (HRL3.out).2 hW; rw [hpb] at this; exact this)
                have HP := Lib.hid (show pT (f + 1) s = none by rw [HPT.out, hpa]; simp only; rw [hpb])
                clear hpa hpb
                go_wp2_with (first
                  | (go_at_call 52; refine (sign_yes _ b 44 r3 HB.out).mono ?_; rintro e W1 ⟨rfl, hB1, hg1⟩; skip; have HZx := Lib.hid (tblk_kept HZ.out hg1 hzb); clear HZ; have HZ := HZx; clear HZx; have HGx := Lib.hid (HG.out.trans hg1); clear HG; have HG := HGx; clear HGx; have HAax := Lib.hid (HAa.out.grown hg1 (by have := HBW.out; omega)); clear HAa; have HAa := HAax; clear HAax; have HOx := Lib.hid (World.ownsRow.kept HO.out hg1 (.inr (fun e => by have := (World.ownsRow.lt HO.out _ e).1; have := HBW.out; omega))); clear HO; have HO := HOx; clear HOx; clear HB; have HB := Lib.hid hB1; clear hB1 hg1)
                  | (go_at_call 40; refine (HJ.out _ HB.out).mono ?_; rintro e W2 ⟨xn, yn, Sn, rfl, hb2, hg2⟩; skip; have HZx := Lib.hid (tblk_kept HZ.out hg2 hzb); clear HZ; have HZ := HZx; clear HZx; have HGx := Lib.hid (HG.out.trans hg2); clear HG; have HG := HGx; clear HGx; clear HB; have HB := Lib.hid hb2; clear hb2 hg2)
                  | (refine Rg.store_fresh rfl 31 _ _ rfl #[.string xn, .string yn, .slice none 0 0] _ 31 rfl rfl (by kernel_rfl) rfl (by simp [Value.oneCell']) ?_; intro Y hY hbY; have HY := Lib.hid hY; have HZx := Lib.hid (HZ.out.below hbY HZ.out.lt); clear HZ; have HZ := HZx; clear HZx; have HBx := Lib.hid (HB.out.below hbY HB.out.lt); clear HB; have HB := HBx; clear HBx; have HGx := Lib.hid (HG.out.lat hbY); clear HG; have HG := HGx; clear HGx; clear hY hbY)
                  | (refine Cv.store_blk rfl 31 _ _ rfl w.heap.size #[.string ⟨#[]⟩, .string ⟨#[]⟩, .slice none 0 0] #[.string ⟨#[]⟩, .string ⟨#[]⟩, .slice none 0 0] 31 rfl rfl HZ.out (by kernel_rfl) rfl (by simp [Value.oneCell']) ?_; intro V hV hgV; have HV := Lib.hid hV; have HGV := Lib.hid hgV; clear hV hgV))
                have p0 := HV.out.cell 0 (v := .string ⟨#[]⟩) rfl
                have p1 := HV.out.cell 1 (v := .string ⟨#[]⟩) rfl
                have p2 := HV.out.cell 2 (v := .slice none 0 0) rfl
                have hz6 := HV.out.lt
                rw [HP.out]
                refine bodyPost_ret (v := .tuple #[.agg #[.string ⟨#[]⟩, .string ⟨#[]⟩, .slice none 0 0], .bool false]) (by simp [results, Tryd.results40, go_sem, p0, p1, p2, hz6]) rfl ?_
                exact ⟨_, _, _, rfl, tblk_kept HB.out HGV.out (Ne.symm hzb), gb_z HG.out HGV.out⟩
              | some y2 =>
                obtain ⟨b1, r4⟩ := y2
                have HJ := Lib.hid (show ∀ W, Rg.Blk W b 74 #[.string (strB r3)] → Calls Tryd.prog 40 #[.pointer (some ⟨b, 0, none⟩)] W fun e w' => ∃ p, e = .returned (.tuple #[.agg (tv b1 p), .bool true]) ∧ FT W.heap.size w' b1 p ∧ Rg.Blk w' b 74 #[.string (strB r4)] ∧ Gb W b w' from fun W hW => by have := ih W b r3 (HRL3.out).1 (HRL3.out).2 hW; rw [hpb] at this; exact this)
                have HBL := Lib.hid (show b1.txt.length ≤ 5000 by have h1 := (pT_len hpb).1; have h2 := HRL3.out; omega)
                go_upto_region 14 with (first
                  | (go_at_call 52; refine (sign_yes _ b 44 r3 HB.out).mono ?_; rintro e W1 ⟨rfl, hB1, hg1⟩; skip; have HZx := Lib.hid (tblk_kept HZ.out hg1 hzb); clear HZ; have HZ := HZx; clear HZx; have HGx := Lib.hid (HG.out.trans hg1); clear HG; have HG := HGx; clear HGx; have HAax := Lib.hid (HAa.out.grown hg1 (by have := HBW.out; omega)); clear HAa; have HAa := HAax; clear HAax; have HOx := Lib.hid (World.ownsRow.kept HO.out hg1 (.inr (fun e => by have := (World.ownsRow.lt HO.out _ e).1; have := HBW.out; omega))); clear HO; have HO := HOx; clear HOx; clear HB; have HB := Lib.hid hB1; clear hB1 hg1)
                  | (go_at_call 40; refine (HJ.out _ HB.out).mono ?_; rintro e W2 ⟨pb, rfl, htp, hb2, hg2⟩; obtain ⟨Ab, cb, rfl⟩ := htp.tp.slice; skip; obtain ⟨Bb, hBg, hBw, htb⟩ : ∃ Bb, (∀ k, Value.ownBlock v6 = some k → k < Bb) ∧ w.heap.size + 1 ≤ Bb ∧ FT Bb W2 b1 (.slice Ab b1.prt.length cb) := ⟨_, fun k hk => (World.ownsRow.lt HO.out k hk).2, HZ.out.lt, htp⟩; have HTb := Lib.hid htb; have HAb := Lib.hid (Agr.refl Bb W2); clear htb; have HZx := Lib.hid (tblk_kept HZ.out hg2 hzb); clear HZ; have HZ := HZx; clear HZx; have HGx := Lib.hid (HG.out.trans hg2); clear HG; have HG := HGx; clear HGx; have HAax := Lib.hid (HAa.out.grown hg2 (by have := HBW.out; omega)); clear HAa; have HAa := HAax; clear HAax; have HOx := Lib.hid (World.ownsRow.kept HO.out hg2 (.inr (fun e => by have := (World.ownsRow.lt HO.out _ e).1; have := HBW.out; omega))); clear HO; have HO := HOx; clear HOx; clear HB; have HB := Lib.hid hb2; clear htp hb2 hg2)
                  | (refine Rg.store_fresh rfl 31 _ _ rfl #[.string (strB (Tm.knd b1)), .string (strB (Tm.txt b1)), .slice Ab (Tm.prt b1).length cb] _ 31 rfl rfl (by kernel_rfl) rfl (by simp [Value.oneCell']) ?_; intro Y hY hbY; have HY := Lib.hid hY; have HZx := Lib.hid (HZ.out.below hbY HZ.out.lt); clear HZ; have HZ := HZx; clear HZx; have HBx := Lib.hid (HB.out.below hbY HB.out.lt); clear HB; have HB := HBx; clear HBx; have HGx := Lib.hid (HG.out.lat hbY); clear HG; have HG := HGx; clear HGx; have HAax := Lib.hid (HAa.out.below hbY); clear HAa; have HAa := HAax; clear HAax; have HAbx := Lib.hid (HAb.out.below hbY); clear HAb; have HAb := HAbx; clear HAbx; have HOx := Lib.hid (ownsBelow HO.out hbY); clear HO; have HO := HOx; clear HOx; clear hY hbY))
                have HOY := Lib.hid (show (Y.alloc (.cells #[.string (strB (Tm.knd b1)), .string (strB (Tm.txt b1)), .slice Ab (Tm.prt b1).length cb] 31)).ownsRow (w.heap.size + 1) 31 3 v6 1 (tcs [(a, Value.slice Aa (Tm.prt a).length ca)]) from World.ownsRow.alloc (HO.out) _)
                have HRY := Lib.hid (show Rd (Y.alloc (.cells #[.string (strB (Tm.knd b1)), .string (strB (Tm.txt b1)), .slice Ab (Tm.prt b1).length cb] 31)) (some ⟨Y.heap.size, 0, none⟩) (tcs [(b1, Value.slice Ab (Tm.prt b1).length cb)]) from fun j v hv => ⟨Y.heap.size, 0, rfl, by simp, by rw [Nat.zero_add]; exact (Rg.Blk.new Y #[.string (strB (Tm.knd b1)), .string (strB (Tm.txt b1)), .slice Ab (Tm.prt b1).length cb] 31).cell j (by rw [tcs_one] at hv; rw [← hv]; simp [tcl])⟩)
                have hbA : Below Y.heap.size Y (Y.alloc (.cells #[.string (strB (Tm.knd b1)), .string (strB (Tm.txt b1)), .slice Ab (Tm.prt b1).length cb] 31)) := (Below.refl _ _).alloc (Nat.le_refl _) _
                have HON := Lib.hid (tcs_oneCell [(b1, Value.slice Ab (Tm.prt b1).length cb)] (fun q hq => by simp at hq; subst hq; rfl))
                have HYB := Lib.hid (HY.out.below hbA HY.out.lt)
                have HZx := Lib.hid (HZ.out.below hbA HZ.out.lt); clear HZ; have HZ := HZx; clear HZx; have HBx := Lib.hid (HB.out.below hbA HB.out.lt); clear HB; have HB := HBx; clear HBx; have HGx := Lib.hid (HG.out.lat hbA); clear HG; have HG := HGx; clear HGx; have HAax := Lib.hid (HAa.out.below hbA); clear HAa; have HAa := HAax; clear HAax; have HAbx := Lib.hid (HAb.out.below hbA); clear HAb; have HAb := HAbx; clear HAbx
                clear hbA
                have HA2 := HAa
                have HWZ := Lib.hid (show w.heap.size + 1 ≤ (Y.alloc (.cells #[.string (strB (Tm.knd b1)), .string (strB (Tm.txt b1)), .slice Ab (Tm.prt b1).length cb] 31)).heap.size from HZ.out.lt)
                go_wp2_with (first
                  | (refine Cv.load_cells rfl 31 _ rfl _ 0 rfl #[.string (strB (Tm.knd b1)), .string (strB (Tm.txt b1)), .slice Ab (Tm.prt b1).length cb] _ (fun j v hv => by rw [Nat.zero_add]; exact HY.out.cell j hv) Tryd.underlying31 rfl (by kernel_rfl) ?_; skip)
                  | (refine appN rfl _ _ 29 rfl Tryd.underlying29 infoT rfl (by decide) (by decide) HOY.out rfl rfl (show (tcs [(b1, Value.slice Ab (Tm.prt b1).length cb)]).length = 1 * 3 from tcs_length _) HRY.out HON.out (by decide) HWZ.out ?_; intro v6b W4 h2 h3 h4; obtain ⟨g6, hg6⟩ : ∃ g, Value.ownBlock v6 = some g := own_some HOY.out (by decide); have hge := (World.ownsRow.lt HOY.out _ hg6).1; rw [hg6] at h3; have HZx := Lib.hid (tblk_kept HZ.out h3 (by omega)); clear HZ; have HZ := HZx; clear HZx; have HBx := Lib.hid (tblk_kept HB.out h3 (by have := HBW.out; omega)); clear HB; have HB := HBx; clear HBx; have HGx := Lib.hid (gb_own HG.out h3 (by omega)); clear HG; have HG := HGx; clear HGx; have HAax := Lib.hid (HAa.out.hi h3 (HG6.out g6 hg6)); clear HAa; have HAa := HAax; clear HAax; have HAbx := Lib.hid (HAb.out.grown h3 (hBg g6 hg6)); clear HAb; have HAb := HAbx; clear HAbx; have HO2 := Lib.hid h2; clear h2 h3 h4))
                clear HO
                have HO := Lib.hid (show W4.ownsRow (w.heap.size + 1) 31 3 v6b 2 (tcs [(a, Value.slice Aa (Tm.prt a).length ca), (b1, Value.slice Ab (Tm.prt b1).length cb)]) by have h := HO2.out; rw [← tcs_append] at h; exact h)
                clear HO2
                rw [rounds_succ]
                by_cases h41 : ∀ q, r4 ≠ 41 :: q
                · have hno := h41
                  have HP := Lib.hid (show pT (f + 1) s = none from by rw [HPT.out, hpa]; simp only; rw [hpb]; exact split_one h41)
                  clear h41
                  go_wp2_with (first
                    | (go_at_call 52; refine (sign_no _ b 41 r4 hno HB.out).mono ?_; rintro e W1 ⟨rfl, hB1, hg1⟩; skip; have HZx := Lib.hid (tblk_kept HZ.out hg1 hzb); clear HZ; have HZ := HZx; clear HZx; have HGx := Lib.hid (HG.out.trans hg1); clear HG; have HG := HGx; clear HGx; have HAax := Lib.hid (HAa.out.grown hg1 (by have := HBW.out; omega)); clear HAa; have HAa := HAax; clear HAax; have HAbx := Lib.hid (HAb.out.grown hg1 (by have := HBW.out; have := hBw; omega)); clear HAb; have HAb := HAbx; clear HAbx; have HOx := Lib.hid (World.ownsRow.kept HO.out hg1 (.inr (fun e => by have := (World.ownsRow.lt HO.out _ e).1; have := HBW.out; omega))); clear HO; have HO := HOx; clear HOx; clear HB; have HB := Lib.hid hB1; clear hB1 hg1)
                    | (refine Cv.store_blk rfl 31 _ _ rfl w.heap.size #[.string ⟨#[]⟩, .string ⟨#[]⟩, .slice none 0 0] #[.string ⟨#[]⟩, .string ⟨#[]⟩, .slice none 0 0] 31 rfl rfl HZ.out (by kernel_rfl) rfl (by simp [Value.oneCell']) ?_; intro V hV hgV; have HV := Lib.hid hV; have HGV := Lib.hid hgV; clear hV hgV))
                  have p0 := HV.out.cell 0 (v := .string ⟨#[]⟩) rfl
                  have p1 := HV.out.cell 1 (v := .string ⟨#[]⟩) rfl
                  have p2 := HV.out.cell 2 (v := .slice none 0 0) rfl
                  have hz6 := HV.out.lt
                  rw [HP.out]
                  refine bodyPost_ret (v := .tuple #[.agg #[.string ⟨#[]⟩, .string ⟨#[]⟩, .slice none 0 0], .bool false]) (by simp [results, Tryd.results40, go_sem, p0, p1, p2, hz6]) rfl ?_
                  exact ⟨_, _, _, rfl, tblk_kept HB.out HGV.out (Ne.symm hzb), gb_z HG.out HGV.out⟩
                · obtain ⟨r9, hr9⟩ : ∃ q, r4 = 41 :: q := Classical.byContradiction fun h => h41 fun q e => h ⟨q, e⟩
                  clear h41
                  have HP := Lib.hid (show pT (f + 1) s = some ((mk2 k a b1), r9) from by rw [HPT.out, hpa]; simp only; rw [hpb, hr9]; rfl)
                  subst hr9
                  go_upto_region 18 with (go_at_call 52; refine (sign_yes _ b 41 r9 HB.out).mono ?_; rintro e W1 ⟨rfl, hB1, hg1⟩; skip; have HZx := Lib.hid (tblk_kept HZ.out hg1 hzb); clear HZ; have HZ := HZx; clear HZx; have HGx := Lib.hid (HG.out.trans hg1); clear HG; have HG := HGx; clear HGx; have HAax := Lib.hid (HAa.out.grown hg1 (by have := HBW.out; omega)); clear HAa; have HAa := HAax; clear HAax; have HAbx := Lib.hid (HAb.out.grown hg1 (by have := HBW.out; have := hBw; omega)); clear HAb; have HAb := HAbx; clear HAbx; have HOx := Lib.hid (World.ownsRow.kept HO.out hg1 (.inr (fun e => by have := (World.ownsRow.lt HO.out _ e).1; have := HBW.out; omega))); clear HO; have HO := HOx; clear HOx; clear HB; have HB := Lib.hid hB1; clear hB1 hg1)
                  have HTS := Lib.hid (show TS (FT (w.heap.size + 1) W1) W1 v6b [a, b1] from ts_own (l := [(a, Value.slice Aa (Tm.prt a).length ca), (b1, Value.slice Ab (Tm.prt b1).length cb)]) (n := 2) HO.out rfl (by decide) (fun q hq => by
                    simp at hq
                    rcases hq with rfl | rfl
                    · exact HTa.out.on HAa.out.1 HAa.out.2
                    · exact (HTb.out.on HAb.out.1 HAb.out.2).mono hBw))
                  go_wp2_with (first
                    | (go_at_call 35; refine (buildF_two W1 HZ.out.lt v6b a b1 k hk3 hk7 HTS.out HAL.out.1 HBL.out).mono ?_; rintro e W5 ⟨pr, rfl, hft, hb5⟩; obtain ⟨Ar, cr, rfl⟩ := hft.tp.slice; skip; have HZx := Lib.hid (HZ.out.below hb5 HZ.out.lt); clear HZ; have HZ := HZx; clear HZx; have HBx := Lib.hid (HB.out.below hb5 HB.out.lt); clear HB; have HB := HBx; clear HBx; have HGx := Lib.hid (HG.out.lat hb5); clear HG; have HG := HGx; clear HGx; have HTr := Lib.hid hft; clear hft hb5)
                    | (refine Cv.store_blk rfl 31 _ _ rfl w.heap.size #[.string (strB (Tm.knd (mk2 k a b1))), .string (strB (Tm.txt (mk2 k a b1))), .slice Ar (Tm.prt (mk2 k a b1)).length cr] #[.string ⟨#[]⟩, .string ⟨#[]⟩, .slice none 0 0] 31 rfl rfl HZ.out (by kernel_rfl) rfl (by simp [Value.oneCell']) ?_; intro V hV hgV; have HV := Lib.hid hV; have HGV := Lib.hid hgV; clear hV hgV))
                  have p0 := HV.out.cell 0 (v := .string (strB (Tm.knd (mk2 k a b1)))) rfl
                  have p1 := HV.out.cell 1 (v := .string (strB (Tm.txt (mk2 k a b1)))) rfl
                  have p2 := HV.out.cell 2 (v := .slice Ar (Tm.prt (mk2 k a b1)).length cr) rfl
                  have hz6 := HV.out.lt
                  rw [HP.out]
                  refine bodyPost_ret (v := .tuple #[.agg (tv (mk2 k a b1) (.slice Ar (Tm.prt (mk2 k a b1)).length cr)), .bool true]) (by simp [tv, results, Tryd.results40, go_sem, p0, p1, p2, hz6]) rfl ?_
                  exact ⟨_, rfl, (HTr.out.on HGV.out.size (fun k h1 h2 => HGV.out.block k h2 (fun e => by have e := Option.some.inj e; omega))).mono (Nat.le_succ _), tblk_kept HB.out HGV.out (Ne.symm hzb), gb_z HG.out HGV.out⟩
        · have hc : cnt x = 0 := by unfold cnt; rw [if_neg h3, if_neg h7]
          rw [hc] at HCN
          have HP := Lib.hid (pT_none (f := f) (s := s) (r := r) hd (by rw [hx]; exact hc))
          clear hx hd h3 h7 hc
          go_enter Tryd.func40, Tryd.ntmps40
          go_upto_region 6 with (first
            | (go_at_call 51; refine HWD.out.mono ?_; rintro e W1 ⟨rfl, hB1, hg1⟩; skip; have HZx := Lib.hid (tblk_kept HZ.out hg1 hzb); clear HZ; have HZ := HZx; clear HZx; have HGx := Lib.hid (HG.out.trans hg1); clear HG; have HG := HGx; clear HGx; clear HB; have HB := Lib.hid hB1; clear hB1 hg1)
            | (go_at_call 52; refine (sign_yes _ b 40 r HB.out).mono ?_; rintro e W1 ⟨rfl, hB1, hg1⟩; skip; have HZx := Lib.hid (tblk_kept HZ.out hg1 hzb); clear HZ; have HZ := HZx; clear HZx; have HGx := Lib.hid (HG.out.trans hg1); clear HG; have HG := HGx; clear HGx; clear HB; have HB := Lib.hid hB1; clear hB1 hg1)
            | (go_at_call 42; refine (HCN.out _).mono ?_; rintro e W3 ⟨rfl, rfl⟩; skip))
          go_upto_region 7 with fail
          refine wp_loop_rounds 1 ?_
          rw [rounds_succ]
          go_wp2_with (refine Cv.store_blk rfl 31 _ _ rfl w.heap.size #[.string ⟨#[]⟩, .string ⟨#[]⟩, .slice none 0 0] #[.string ⟨#[]⟩, .string ⟨#[]⟩, .slice none 0 0] 31 rfl rfl HZ.out (by kernel_rfl) rfl (by simp [Value.oneCell']) ?_; intro V hV hgV; have HV := Lib.hid hV; have HGV := Lib.hid hgV; clear hV hgV)
          have p0 := HV.out.cell 0 (v := .string ⟨#[]⟩) rfl
          have p1 := HV.out.cell 1 (v := .string ⟨#[]⟩) rfl
          have p2 := HV.out.cell 2 (v := .slice none 0 0) rfl
          have hz6 := HV.out.lt
          rw [HP.out]
          refine bodyPost_ret (v := .tuple #[.agg #[.string ⟨#[]⟩, .string ⟨#[]⟩, .slice none 0 0], .bool false]) (by simp [results, Tryd.results40, go_sem, p0, p1, p2, hz6]) rfl ?_
          exact ⟨_, _, _, rfl, tblk_kept HB.out HGV.out (Ne.symm hzb), gb_z HG.out HGV.out⟩
end Go.Proofs.YtfcemnebhapidaaDoor.Te
