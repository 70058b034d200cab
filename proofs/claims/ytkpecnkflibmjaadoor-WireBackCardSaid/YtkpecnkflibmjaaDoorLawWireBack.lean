/- The law WireBack: the walk. -/
import Derived.Test.YtkpecnkflibmjaaDoorWireBk
import Derived.Deep.RegionHeld3
import Derived.Deep.DrawnRows
set_option linter.unusedVariables false
set_option linter.unusedSimpArgs false
namespace Go.Proofs.YtkpecnkflibmjaaDoor.Wi
open Go.RowKit Go.Proofs.YtkpecnkflibmjaaDoor.Ow Go.Proofs.YtkpecnkflibmjaaDoor.Be Go.Proofs.YtkpecnkflibmjaaDoor.Cl Go.Proofs.YtkpecnkflibmjaaDoor.Cv
attribute [local go_sem ↓] Go.wp_at_zero Go.wp_at_succ
theorem infoFld : (Tryd.prog.info? 35).map (fun i => (i.zero, i.size, i.bytes)) = some (some (.agg #[.int .i64 0, .int .u64 0, .string ⟨#[]⟩, .slice none 0 0]), 4, 56) := by kernel_rfl
theorem rowForm {w : World} {B : Nat} {E : TypeId} {sz : Nat} {v : Value} {n : Nat} {xs : List Value} (h : w.ownsRow B E sz v n xs) :
    ∃ A c, v = .slice A n c ∧ n ≤ c ∧ ∀ (j : Nat) (x : Value), xs[j]? = some x → ∃ g, A = some ⟨g, 0, none⟩ ∧ B ≤ g ∧ g < w.heap.size ∧ w.cell? ⟨g, j, none⟩ = some x := by
  obtain ⟨hl, ⟨rfl, rfl⟩ | ⟨g, cap, cur, hv, hB, hg, hc, _⟩⟩ := h
  · refine ⟨none, 0, rfl, Nat.le_refl _, fun j x hx => ?_⟩
    have : xs = [] := List.eq_nil_of_length_eq_zero (by omega)
    subst this
    simp at hx
  · refine ⟨_, cap, hv, hc, fun j x hx => ⟨g, rfl, hB, (Array.getElem?_eq_some_iff.1 hg).1, ?_⟩⟩
    have h' : w.ownsRow B E sz v n xs := ⟨hl, .inr ⟨g, cap, cur, hv, hB, hg, hc, ‹_›⟩⟩
    have := World.ownsRow.cells h' (g := g) (by rw [hv]; rfl) j x hx
    have hadd : (⟨g, 0, none⟩ : Addr).add j = ⟨g, j, none⟩ := by unfold Addr.add; split <;> simp_all
    rw [hadd] at this
    exact this
theorem rowNe {w : World} {B k n : Nat} {E : TypeId} {v : Value} {xs : List Value} (h : w.ownsRow B E k v n xs) {g : Nat} (hg : w.heap.size ≤ g) : some g ≠ v.ownBlock := fun e => by
  have := (World.ownsRow.lt h _ e.symm).2; omega
theorem rowApart {w : World} {B k n C : Nat} {E : TypeId} {v v2 : Value} {xs : List Value} (h : w.ownsRow B E k v n xs) (hC : w.heap.size ≤ C) (h2 : ∀ k, v2.ownBlock = some k → C ≤ k) : v2.ownBlock = none ∨ v2.ownBlock ≠ v.ownBlock := by
  rcases e : v2.ownBlock with _ | g
  · exact .inl rfl
  · right
    exact rowNe h (Nat.le_trans hC (h2 g e))
theorem IsOut.ne {B b B' : Nat} {l : List UInt8} {w : World} (h : IsOut B b l w) {E : TypeId} {k n : Nat} {v : Value} {xs : List Value} (ho : w.ownsRow B' E k v n xs) (hE : E ≠ 31) : v.ownBlock ≠ some b := fun e => by
  obtain ⟨c, fz, hc⟩ := Lib.ownsRow_kind ho b e
  have key : ∀ p, Lib.BuilderAt 31 5 B b p (bv l) w → False := by
    rintro p ⟨_, v, hbk, _⟩
    rw [hc] at hbk
    simp only [Option.some.injEq, Obj.cells.injEq] at hbk
    exact hE hbk.2.1
  exact h.elim (key _) (key _)
theorem rowCells {w : World} {B : Nat} {E : TypeId} {sz : Nat} {A : Option Addr} {n c : Nat} {xs : List Value} (h : w.ownsRow B E sz (.slice A n c) n xs) :
    ∀ (j : Nat) (x : Value), xs[j]? = some x → ∃ g, A = some ⟨g, 0, none⟩ ∧ g < w.heap.size ∧ w.cell? ⟨g, j, none⟩ = some x := fun j x hx => by
  obtain ⟨A', c', hv, _, hc⟩ := rowForm h
  obtain ⟨g, hA, _, hl, hcell⟩ := hc j x hx
  injection hv with e1 _ _
  exact ⟨g, e1.trans hA, hl, hcell⟩
theorem kept_owns {E : TypeId} {w w' : World} {B k n : Nat} {v : Value} {xs : List Value} (h : Bo.Kept w w') (ho : w.ownsRow B E k v n xs) (hE : E ≠ 5) : w'.ownsRow B E k v n xs := by
  obtain ⟨hl, h0 | ⟨g, cap, cur, hv, hB, hg, h1⟩⟩ := ho
  · exact ⟨hl, .inl h0⟩
  · exact ⟨hl, .inr ⟨g, cap, cur, hv, hB, h _ _ _ _ hg hE, h1⟩⟩
theorem ItOk.kept {w w' : World} {B : Nat} {f : Fld} (h : ItOk w B f) (hk : Bo.Kept w w') : ItOk w' B f := by
  refine ⟨h.n, h.s, h.few, h.cap, h.ok, h.short, fun j x hx => ?_⟩
  obtain ⟨g, cur, fz, hA, hB, hg, hc⟩ := h.rd j x hx
  exact ⟨g, cur, fz, hA, hB, hk _ _ _ _ hg (by decide), hc⟩
theorem same_true (w : World) (A B : Option Addr) (c d : Nat) (xs : List ByteArray) (hA : Rd w A (xs.map Value.string)) (hB : Rd w B (xs.map Value.string)) (hx : xs.length ≤ 9223372036854775807) :
    Calls Tryd.prog 28 #[.slice A xs.length c, .slice B xs.length d] w fun e w' => e = .returned (.bool true) ∧ Below w.heap.size w w' := by
  have := same_any w A B c d xs xs hA hB hx
  simpa using this
def strSz' : Value → Nat
  | .string s => s.size
  | _ => 0
def bit (c : Bool) : List UInt8 := [if c then 1 else 0]
set_option maxRecDepth 20000 in
set_option maxHeartbeats 8000000 in
theorem law_WireBack (w : World) (A : Option Addr) (cp : Nat) (fs : List Fld) (hR : RdF w A fs) (hc : fs.length ≤ cp) (hm : cp ≤ maxLen) (E : Nat → Value) (hE : Errs w E)
    (hM : ∃ m, w.cell? ⟨20, 0, none⟩ = some (.int .i64 m)) :
    Calls Tryd.prog 5 #[.slice A fs.length cp] w fun e w' => e = .returned (.bool true) ∧ Below w.heap.size w w' := by
  have HE := Lib.hid hE
  have HR := Lib.hid hR
  have HM := Lib.hid hM
  obtain ⟨n, hn⟩ : ∃ n, fs.length = n := ⟨_, rfl⟩
  have hnm : n ≤ 9223372036854775807 := by unfold maxLen at hm; omega
  rw [hn]
  have HN := Lib.hid hn
  clear hE hR hn hm hc hM
  go_enter Tryd.func5, Tryd.ntmps5
  go_wp2_with (first
    | (go_at_call 7; refine (awake_any _ E HE.out).mono ?_; rintro e w1 ⟨rfl, hb1⟩; skip; have HB1 := Lib.hid hb1; clear hb1))
  have HO0 := Lib.hid (outFresh w1)
  have HB0 := Lib.hid (show Below w1.heap.size w1 (w1.alloc (.cells #[.pointer none, .slice none 0 0] 31)) from (Below.refl _ _).alloc (Nat.le_refl _) _)
  go_loopw [4, 5] (fun v i wr => ∃ (k : Nat) (its : List Fld), k ≤ n ∧ k ≤ 12 ∧ its.length = k ∧ i = .int .i64 k ∧ wr.ownsRow w1.heap.size 35 4 v k (its.flatMap fldC) ∧ (∀ f ∈ its, ItOk wr (w1.heap.size + 1) f) ∧ IsOut w1.heap.size w1.heap.size (encs its) wr ∧ Below w1.heap.size w1 wr) (fun _ i _ => 20 - (intOf i).toNat)
  case atStart => exact ⟨0, [], Nat.zero_le _, by decide, rfl, rfl, World.ownsRow_nil _ _ _ _, by simp, HO0.out, HB0.out⟩
  case round =>
    obtain ⟨k, its, hk, hk12, hkl, rfl, hV, hI, hO, hb⟩ := hrel
    have HO := Lib.hid hO
    have HB := Lib.hid hb
    have HV := Lib.hid hV
    have HI := Lib.hid hI
    have HKL := Lib.hid hkl
    have hszb := hb.size
    have HWW := Lib.hid hszb
    have HWL := Lib.hid hO.lt
    have HBW := Lib.hid (HB1.out.trans (hb.mono HB1.out.size))
    have HEL := Lib.hid (encs_length its hI)
    clear hO hb HO0 HB0 hV hI hkl
    by_cases hgo : k < n ∧ k < 12
    case pos =>
      obtain ⟨hkn, hkt⟩ := hgo
      have hd1 : decide (k < n) = true := by simp; exact hkn
      have hd2 : decide ((k : Int) < 12) = true := by simp; omega
      obtain ⟨⟨b, o, rfl, hbl, hcell⟩, hrd, hxc, hcm, hnl⟩ := HR.out k _ (List.getElem?_eq_getElem (by rw [HN.out]; exact hkn))
      generalize fs[k]'(by rw [HN.out]; exact hkn) = fl at *
      obtain ⟨kind, N, s, a, c, xs⟩ := fl
      simp only at hcell hrd hxc hcm hnl
      have HCW := Lib.hid (show ∀ (i : Nat) (v : Value), (fieldC kind (N : Int) s (.slice a xs.length c))[i]? = some v → wr.cell? ⟨b, o + k * 4 + i, none⟩ = some v from fun i v h => (HBW.out.cell (p := ⟨b, o + k * 4 + i, none⟩) hbl).trans (hcell i v h))
      have HRW := Lib.hid (hrd.below HBW.out)
      have HC := Lib.hid hxc
      have HMX := Lib.hid hcm
      have HNL := Lib.hid hnl
      obtain ⟨s4, hs4⟩ : ∃ s4, s.extract 0 40 = s4 := ⟨_, rfl⟩
      have hs40 : s4.size ≤ 40 := by rw [← hs4, ByteArray.size_extract]; omega
      have HS4 := Lib.hid hs4
      have hik : (k : Int) < n := by omega
      have tok := True.intro
      clear hcell hrd hxc hcm hnl hs4 hbl
      go_wp2_with (first
          | (refine load_cells rfl 35 _ rfl b (o + k * 4) rfl (fieldC kind N s (.slice a xs.length c)) _ HCW.out Tryd.underlying35 rfl (by kernel_rfl) ?_; skip)
          | (go_at_call 11; refine (few_any _ kind N s a c xs HRW.out HC.out HMX.out).mono ?_; rintro e w2 ⟨A2, c2, ys, rfl, hy6, hyc, hy70, hRy, hb2⟩; skip; rw [HS4.out]
             have HB2 := Lib.hid hb2; have HRY := Lib.hid hRy; have HYC := Lib.hid hyc; have HY7 := Lib.hid hy70; clear hb2 hRy hyc hy70)
          | (have _t := tok
             refine Rg.store_fresh rfl 35 _ _ rfl (fieldC kind N s4 (.slice A2 ys.length c2)) _ 35 rfl rfl (by kernel_rfl) rfl (by simp [fieldC, Value.oneCell']) ?_
             intro X hX hbX
             have hx3 : X.cell? ⟨w2.heap.size, 3, none⟩ = some (.slice A2 ys.length c2) := hX.cell 3 rfl
             have HX := Lib.hid hX
             have HBX := Lib.hid (show Below wr.heap.size wr X from HB2.out.trans (hbX.mono HB2.out.size))
             have HRX := Lib.hid (HRY.out.below hbX)
             have HSW := Lib.hid (show wr.heap.size ≤ w2.heap.size from HB2.out.size)
             clear hX hbX _t tok))
      obtain ⟨m, hm⟩ : ∃ m, ys.length = m := ⟨_, rfl⟩
      rw [hm] at hy6 hx3 ⊢
      have HMM := Lib.hid hm
      have HXL := Lib.hid (show w2.heap.size < X.heap.size from HX.out.lt)
      clear hm
      go_loopw [7, 34] (fun v i wr2 => ∃ j : Nat, j ≤ m ∧ i = .int .i64 j ∧ Owns wr2 X.heap.size 9 v (((ys.take j).filter okN).map Value.string) ∧ Below X.heap.size X wr2) (fun _ i _ => m - (intOf i).toNat)
      case atStart => exact ⟨0, Nat.zero_le _, rfl, Owns.nil _ _ _, Below.refl _ _⟩
      case round =>
        obtain ⟨j, hj, rfl, hOn, hbj⟩ := hrel
        have HON := Lib.hid hOn
        have HBJ := Lib.hid hbj
        have hsz2 := hbj.size
        have HXR := Lib.hid (HX.out.below hbj HXL.out)
        clear hOn hbj hx3
        by_cases hjm : j < m
        · have hd3 : decide (j < m) = true := by simp; exact hjm
          have hij : (j : Int) < m := by omega
          obtain ⟨b2, o2, rfl, hbl2, hcell2⟩ := HRX.out.rd.at_ (j := j) (by rw [List.length_map, HMM.out]; exact hjm)
          rw [List.getElem_map] at hcell2
          have hx : ys[j]? = some (ys[j]'(by rw [HMM.out]; exact hjm)) := List.getElem?_eq_getElem _
          have hxs : (ys[j]'(by rw [HMM.out]; exact hjm)).size ≤ 9223372036854775807 := by
            have := HY7.out _ (List.getElem_mem (l := ys) (n := j) (by rw [HMM.out]; exact hjm)); omega
          generalize ys[j]'(by rw [HMM.out]; exact hjm) = x at *
          have hcw := (HBJ.out.cell (p := ⟨b2, o2 + j, none⟩) hbl2).trans hcell2
          have HXX := Lib.hid hx
          have HXS := Lib.hid hxs
          have hfl : ((ys.take j).filter okN).length ≤ j := by
            have := List.length_filter_le okN (ys.take j); rw [List.length_take] at this; omega
          have HFL := Lib.hid hfl
          clear hcell2 hbl2 hx hxs hfl
          cases hok : okN x
          · have HSK := Lib.hid (okN_skip HXX.out hok)
            have HOK := Lib.hid (show nameB x.data.toList = false from hok)
            clear hok
            go_wp2_with (first
              | (go_at_call 10; refine (RefName_any _ x HXS.out).mono ?_; rintro e w3 ⟨rfl, rfl⟩; skip; rw [HOK.out]))
            go_roundw
            case rel =>
              have hr := HSK.out ▸ HON.out
              first
                | exact ⟨j + 1, by omega, by go_num, hr, HBJ.out⟩
                | ((repeat apply Exists.intro); refine ⟨?_, rfl⟩; exact ⟨j + 1, by omega, by go_num, hr, HBJ.out⟩)
            case measure => simp [intOf]; omega
          · have HSK := Lib.hid (okN_take HXX.out hok)
            have HOK := Lib.hid (show nameB x.data.toList = true from hok)
            have HMS := Lib.hid (map_push1 ((ys.take j).filter okN) x)
            clear hok
            go_wp2_with (first
              | (go_at_call 10; refine (RefName_any _ x HXS.out).mono ?_; rintro e w3 ⟨rfl, rfl⟩; skip; rw [HOK.out])
              | (at_builtin; refine app1 rfl _ _ _ rfl Tryd.underlying33 infoStr rfl (by decide) HON.out rfl rfl rfl ?_ hsz2 ?_
                 · rw [List.length_map]; have := HFL.out; omega
                 intro v' w3 hO' hg' _
                 rw [HMS.out, ← HSK.out] at hO'
                 have HO' := Lib.hid hO'
                 have HB' := Lib.hid (HBJ.out.grown hg' hsz2 (HON.out.ge (Nat.le_refl _)))
                 clear hO' hg'))
            go_roundw
            case rel =>
              first
                | exact ⟨j + 1, by omega, by go_num, HO'.out, HB'.out⟩
                | ((repeat apply Exists.intro); refine ⟨?_, rfl⟩; exact ⟨j + 1, by omega, by go_num, HO'.out, HB'.out⟩)
            case measure => simp [intOf]; omega
        obtain rfl : j = m := by omega
        have hd3 : decide (j < j) = false := by simp
        obtain ⟨A3, c3, rfl, _, hc3⟩ := HON.out.form
        have hzz : (ys.take j).filter okN = ys.filter okN := by rw [List.take_of_length_le (Nat.le_of_eq HMM.out)]
        rw [hzz] at hc3 HON ⊢
        obtain ⟨zs, hzs⟩ : ∃ zs, ys.filter okN = zs := ⟨_, rfl⟩
        rw [hzs] at hc3 HON ⊢
        rw [List.length_map] at hc3 ⊢
        have HZF := Lib.hid (show zs.length ≤ 6 by rw [← hzs]; exact Nat.le_trans (List.length_filter_le _ _) (by rw [HMM.out]; exact hy6))
        have HZS := Lib.hid (show ∀ x ∈ zs, x.size ≤ 70 from fun x hx => by rw [← hzs] at hx; exact HY7.out x (List.mem_filter.1 hx).1)
        have HZO := Lib.hid (show zs.all okN = true by rw [← hzs]; simp)
        have HC3 := Lib.hid hc3
        obtain ⟨q, hq⟩ : ∃ q, zs.length = q := ⟨_, rfl⟩
        rw [hq] at hc3 ⊢
        have HQ := Lib.hid hq
        clear hzz hzs hq hc3
        have HFX := Lib.hid (Nat.lt_of_lt_of_le HXL.out hsz2)
        have tk := True.intro
        go_wp2_with (first
          | (have _t := tk
             refine store_slice rfl 33 _ _ rfl rfl rfl Tryd.underlying33 (by kernel_rfl) HXR.out rfl ?_
             intro V hV hgV
             have hV0 : Rg.Blk V w2.heap.size 35 #[.int .i64 kind, .int .u64 N, .string s4, .slice A3 q c3] := hV
             have HKT := Lib.hid (KeptT.grownAt hgV HXR.out)
             have HVV := Lib.hid (World.ownsRow.kept (rowBelow (HV.out) (HBX.out.trans (HBJ.out.mono HBX.out.size))) hgV (.inr fun e => by have h1 := (HV.out.lt _ e).2; have h2 := HSW.out; omega))
             have HVN := Lib.hid (HON.out.kept hgV (.inr fun e => by have h1 := (HON.out.lt _ e).1; have h2 := HXL.out; omega))
             have HSV := Lib.hid hgV.size
             have HBV := Lib.hid ((HB.out.trans ((HBX.out.trans (HBJ.out.mono HBX.out.size)).mono HWW.out)).grown hgV (Nat.le_trans HWW.out (HBX.out.trans (HBJ.out.mono HBX.out.size)).size) (fun k hk => by cases hk; exact Nat.le_trans HWW.out HSW.out))
             have HVB := Lib.hid hV0
             have HGV := Lib.hid hgV
             clear hV hgV hV0 _t tk; have tk2 := True.intro)
          | (have _t := tk2
             refine wpList_load_row rfl 35 _ rfl _ rfl _ _ _ _ HVB.out Tryd.underlying35 rfl (by kernel_rfl) ?_
             clear _t tk2; have tk3 := True.intro)
          | (at_builtin
             have _t := tk3
             go_loud (refine appS rfl _ _ _ rfl Tryd.underlying25 infoFld rfl (by decide) (by decide) HVV.out rfl rfl rfl (by simp [Value.oneCell']) (by omega) (Nat.le_trans HWW.out (Nat.le_trans HBX.out.size (Nat.le_trans hsz2 HSV.out))) ?_)
             intro v' U hU hgU hatU
             have HU := Lib.hid hU
             have HGU := Lib.hid hgU
             clear hU hgU hatU _t tk3))
        have HUK := Lib.hid (KeptT.grownRow HGU.out HVV.out)
        have hne1 := rowNe HV.out HSW.out
        have hUB : Rg.Blk U w2.heap.size 35 #[.int .i64 kind, .int .u64 N, .string s4, .slice A3 q c3] := (HGU.out.block _ HVB.out.lt hne1).trans HVB.out
        have g1 := hUB.cell 1 rfl
        have g2 := hUB.cell 2 rfl
        have g3 := hUB.cell 3 rfl
        have HUB3 := Lib.hid hUB
        have HNE := Lib.hid (show w2.heap.size ≠ w1.heap.size by have h1 := HWL.out; have h2 := HSW.out; omega)
        have HWL2 := Lib.hid (show w1.heap.size < w1.heap.size + 1 by omega)
        have HXO := Lib.hid (show Below wr.heap.size wr wr from Below.refl _ _)
        have HOU := Lib.hid (show IsOut w1.heap.size w1.heap.size (encs its) U from (((HO.out.below HBX.out).below HBJ.out).keptT HKT.out (by decide) (by decide)).keptT HUK.out (by decide) (by decide))
        have HIU := Lib.hid (show ∀ f ∈ its, ItOk U (w1.heap.size + 1) f from fun f hf => ((((HI.out f hf).below HBX.out).below HBJ.out).keptT HKT.out (by decide)).keptT HUK.out (by decide))
        have HNU := Lib.hid (show RdS U (w1.heap.size + 1) A3 (zs.map Value.string) from RdS.of (HVN.out.kept HGU.out (rowApart HV.out HSW.out (fun k hk => Nat.le_trans (Nat.le_of_lt HXL.out) ((HON.out.lt k hk).1)))) (Nat.le_trans HWL.out (Nat.le_trans HSW.out (Nat.le_of_lt HXL.out))))
        have HZ3 := Lib.hid (show RdS (World.drew U) (w1.heap.size + 1) A3 (zs.map Value.string) from HNU.out.below (Below.drew (Below.refl _ _)))
        have HSU := Lib.hid (show w1.heap.size ≤ U.heap.size from Nat.le_trans HWW.out (Nat.le_trans HBX.out.size (Nat.le_trans hsz2 (Nat.le_trans HSV.out HGU.out.size))))
        have HCA := Lib.hid (show Bo.Calm w1.heap.size w1.heap.size U (World.drew U) from Bo.Calm.of (Below.drew (Below.refl _ _)) HSU.out)
        have HJZ := Lib.hid (show (joinC zs).length ≤ 426 by have := joinC_le zs zs.length (Nat.le_refl _) HZS.out; rw [List.take_length] at this; have := HZF.out; omega)
        clear hUB hne1
        go_region_held3 (fun w' => w'.cell? ⟨w2.heap.size, 1, none⟩ = some (.int .u64 N) ∧ w'.cell? ⟨w2.heap.size, 2, none⟩ = some (.string s4) ∧ w'.cell? ⟨w2.heap.size, 3, none⟩ = some (.slice A3 q c3)) (go_keep)
          (first
            | (go_at_call 16; go_loud (refine (U64_any w1.heap.size w1.heap.size (encs its) N HNL.out _ (HOU.out.below (Below.drew (Below.refl _ _))) (by have := HEL.out; have := HKL.out; omega) HSU.out).mono ?_); rintro e w4 ⟨rfl, h4, hb4⟩
               have hbk : Rg.Blk w4 w2.heap.size 35 #[.int .i64 kind, .int .u64 N, .string s4, .slice A3 q c3] := hb4.kept _ _ _ _ (HUB3.out) (by decide) HNE.out
               have g1 := hbk.cell 1 rfl
               have g2 := hbk.cell 2 rfl
               have g3 := hbk.cell 3 rfl
               have HUB4 := Lib.hid hbk; have H4 := Lib.hid h4; have HK4 := Lib.hid (HCA.out.trans hb4); have HZ4 := Lib.hid ((HZ3.out).calm hb4 HWL2.out)
               clear hbk h4 hb4)
            | (go_at_call 22; go_loud (refine (Text_any w1.heap.size w1.heap.size _ s4 (by omega) _ H4.out (by rw [List.length_append, be_length]; have := HEL.out; have := HKL.out; omega) (Nat.le_trans HSU.out HK4.out.size)).mono ?_); rintro e w5 ⟨rfl, h5, hb5⟩
               have hbk : Rg.Blk w5 w2.heap.size 35 #[.int .i64 kind, .int .u64 N, .string s4, .slice A3 q c3] := hb5.kept _ _ _ _ (HUB4.out) (by decide) HNE.out
               have g1 := hbk.cell 1 rfl
               have g2 := hbk.cell 2 rfl
               have g3 := hbk.cell 3 rfl
               have HUB5 := Lib.hid hbk; have H5 := Lib.hid h5; have HK5 := Lib.hid (HK4.out.trans hb5); have HZ5 := Lib.hid ((HZ4.out).calm hb5 HWL2.out)
               clear hbk h5 hb5)
            | (go_at_call 18; go_loud (refine (Names_any w1.heap.size w1.heap.size _ A3 q c3 zs HQ.out (by have := HC3.out; have := HQ.out; omega) (by have := HZF.out; have := HQ.out; omega) _ HZ5.out.rd (by have := HJZ.out; omega) H5.out (by rw [List.length_append, List.length_append, be_length, textL_length, len_list]; have := HEL.out; have := HKL.out; have := HJZ.out; omega) (Nat.le_trans HSU.out HK5.out.size)).mono ?_); rintro e w6 ⟨rfl, h6, hb6⟩
               have hbk : Rg.Blk w6 w2.heap.size 35 #[.int .i64 kind, .int .u64 N, .string s4, .slice A3 q c3] := hb6.kept _ _ _ _ (HUB5.out) (by decide) HNE.out
               have g1 := hbk.cell 1 rfl
               have g2 := hbk.cell 2 rfl
               have g3 := hbk.cell 3 rfl
               have HUB6 := Lib.hid hbk; have H6 := Lib.hid h6; have HK6 := Lib.hid (HK5.out.trans hb6); have HZ6 := Lib.hid ((HZ5.out).calm hb6 HWL2.out)
               clear hbk h6 hb6)
            | (go_at_call 20; go_loud (refine (Big_any w1.heap.size w1.heap.size _ s4 (by omega) _ H6.out (by rw [List.length_append, List.length_append, List.length_append, be_length, textL_length, textL_length, len_list]; have := HEL.out; have := HKL.out; have := HJZ.out; omega) (Nat.le_trans HSU.out HK6.out.size)).mono ?_); rintro e w7 ⟨rfl, h7, hb7⟩
               have hbk : Rg.Blk w7 w2.heap.size 35 #[.int .i64 kind, .int .u64 N, .string s4, .slice A3 q c3] := hb7.kept _ _ _ _ (HUB6.out) (by decide) HNE.out
               have g1 := hbk.cell 1 rfl
               have g2 := hbk.cell 2 rfl
               have g3 := hbk.cell 3 rfl
               have HUB7 := Lib.hid hbk; have H7 := Lib.hid h7; have HK7 := Lib.hid (HK6.out.trans hb7); have HZ7 := Lib.hid ((HZ6.out).calm hb7 HWL2.out)
               clear hbk h7 hb7)
            | (go_at_call 13; go_loud (refine (Bool_any w1.heap.size w1.heap.size _ (decide ((9 : Int) < (N : Int))) _ H7.out (by rw [List.length_append, List.length_append, List.length_append, List.length_append, be_length, textL_length, textL_length, textL_length, len_list]; have := HEL.out; have := HKL.out; have := HJZ.out; have := bigL_length s4.data.toList; rw [len_list] at this; omega) (Nat.le_trans HSU.out HK7.out.size)).mono ?_); rintro e w8 ⟨rfl, h8, hb8⟩
               have hbk : Rg.Blk w8 w2.heap.size 35 #[.int .i64 kind, .int .u64 N, .string s4, .slice A3 q c3] := hb8.kept _ _ _ _ (HUB7.out) (by decide) HNE.out
               have g1 := hbk.cell 1 rfl
               have g2 := hbk.cell 2 rfl
               have g3 := hbk.cell 3 rfl
               have HUB8 := Lib.hid hbk; have H8 := Lib.hid h8; have HK8 := Lib.hid (HK7.out.trans hb8); have HZ8 := Lib.hid ((HZ7.out).calm hb8 HWL2.out)
               clear hbk h8 hb8))
        have HV8 := Lib.hid (show w8.ownsRow w1.heap.size 35 4 v' (k + 1) ((its ++ [(⟨kind, N, s4, A3, c3, zs⟩ : Fld)]).flatMap fldC) from by
          have h1 := calm_owns HK8.out HU.out (by decide) (HOU.out.ne HU.out (by decide))
          rw [List.flatMap_append, List.flatMap_singleton]
          unfold fldC fieldC
          simp only [HQ.out]
          exact h1)
        have HB8 := Lib.hid (show Below w1.heap.size w1 w8 from (HBV.out.grown HGU.out (Nat.le_trans HWW.out (Nat.le_trans HBX.out.size (Nat.le_trans hsz2 HSV.out))) (fun k hk => (HVV.out.lt k hk).1)).trans HK8.out.below)
        have HO8 := Lib.hid (show IsOut w1.heap.size w1.heap.size (encs (its ++ [(⟨kind, N, s4, A3, c3, zs⟩ : Fld)])) w8 from by
          have h1 := H8.out
          rw [encs_snoc]
          unfold encI
          simp only [List.append_assoc] at h1
          exact h1)
        go_wp2_with fail
        go_roundw
        case rel =>
          have hI8 : ∀ f ∈ its, ItOk w8 (w1.heap.size + 1) f := fun f hf => (HIU.out f hf).calm HK8.out HWL2.out
          have hit : ItOk w8 (w1.heap.size + 1) ⟨kind, N, s4, A3, c3, zs⟩ := ⟨HNL.out, hs40, HZF.out, by have := HC3.out; exact this, HZO.out, HZS.out, HZ8.out⟩
          have hV8 := HV8.out
          have hO8 := HO8.out
          first
            | exact ⟨k + 1, its ++ [⟨kind, N, s4, A3, c3, zs⟩], by omega, by omega, by rw [List.length_append, HKL.out]; rfl, by go_num, hV8, by
                intro f hf
                rcases List.mem_append.1 hf with h | h
                · exact hI8 f h
                · rw [List.mem_singleton.1 h]; exact hit, hO8, HB8.out⟩
            | ((repeat apply Exists.intro); refine ⟨?_, rfl⟩; exact ⟨k + 1, its ++ [⟨kind, N, s4, A3, c3, zs⟩], by omega, by omega, by rw [List.length_append, HKL.out]; rfl, by go_num, hV8, by
                intro f hf
                rcases List.mem_append.1 hf with h | h
                · exact hI8 f h
                · rw [List.mem_singleton.1 h]; exact hit, hO8, HB8.out⟩)
        case measure => simp [intOf]; omega
    have hd : decide (k < n) = true ∧ decide ((k : Int) < 12) = false ∨ decide (k < n) = false := by
      by_cases h1 : k < n
      · left; simp; omega
      · right; simp; omega
    obtain ⟨A4, c4, rfl, hc4, hrow⟩ := rowForm HV.out
    have HRW := Lib.hid hrow
    have HC4 := Lib.hid hc4
    obtain ⟨eb, heb⟩ : ∃ eb, mkS (encs its) = eb := ⟨_, rfl⟩
    have HEB := Lib.hid heb
    have HRd := Lib.hid (Bo.Read.of HO.out)
    clear hc4 hrow heb
    rcases hd with ⟨hd1, hd2⟩ | hd1
    all_goals
      try have hik : (k : Int) < n := by simp at hd1; omega
      go_wp2_with (first
        | (go_at_call 24; refine (Bytes_eq w1.heap.size w1.heap.size (encs its) eb HEB.out _ HRd.out HWW.out).mono ?_; rintro e w4 ⟨rfl, h4, hb4, hk4⟩; skip; have HB4 := Lib.hid (HB1.out.trans ((HB.out.trans hb4).mono HB1.out.size)); have HV4 := Lib.hid (rowCells (kept_owns hk4 HV.out (by decide))); have HI4 := Lib.hid (show ∀ f ∈ its, ItOk w4 (w1.heap.size + 1) f from fun f hf => (HI.out f hf).kept hk4); clear h4 hb4 hk4)
        | (go_at_call 25; refine (Of_any _ eb).mono ?_; rintro e w5 ⟨rfl, h5, hb5⟩; skip; have H5 := Lib.hid h5; have HB5 := Lib.hid hb5; clear h5 hb5))
      have HGL := Lib.hid ((HE.out.below HB4.out).gl (Nat.le_refl w4.heap.size))
      have HE4 := Lib.hid (HE.out.below HB4.out)
      have hml := HM.out
      obtain ⟨mm, hmm⟩ := hml
      have HGM := Lib.hid (show 20 < w4.heap.size from Nat.lt_of_lt_of_le (World.block_lt_of_cell? _ _ hmm) HB4.out.size)
      have HM4 := Lib.hid (show ∀ W : World, Below w4.heap.size w4 W → ∃ m, W.cell? ⟨20, 0, none⟩ = some (.int .i64 m) from fun W hW => ⟨mm, (hW.cell (p := ⟨20, 0, none⟩) HGM.out).trans ((HB4.out.cell (p := ⟨20, 0, none⟩) (World.block_lt_of_cell? _ _ hmm)).trans hmm)⟩)
      clear hmm
      go_loopw [71] (fun i wr => ∃ j : Nat, j ≤ k ∧ i = .int .i64 j ∧ IsIn wr w4.heap.size (mkS (encs (its.drop j))) (evV E 0) ∧ Below w4.heap.size w4 wr) (fun i _ => k - (intOf i).toNat)
      case atStart => exact ⟨0, Nat.zero_le _, rfl, by rw [List.drop_zero, HEB.out, evV_zero]; exact H5.out, HB5.out⟩
      case round =>
        obtain ⟨j, hj, rfl, hIn, hbj⟩ := hrel
        have HIN := Lib.hid hIn
        have HBL := Lib.hid hbj
        clear hIn hbj
        by_cases hjk : j < k
        · have hdj : decide (j < k) = true := by simp; exact hjk
          have hij : (j : Int) < k := by omega
          have hf : its[j]? = some (its[j]'(by rw [HKL.out]; exact hjk)) := List.getElem?_eq_getElem _
          have hfm : its[j]'(by rw [HKL.out]; exact hjk) ∈ its := List.getElem_mem _
          have hdr : its.drop j = its[j]'(by rw [HKL.out]; exact hjk) :: its.drop (j + 1) := List.drop_eq_getElem_cons _
          generalize its[j]'(by rw [HKL.out]; exact hjk) = f at *
          have HIT := Lib.hid (HI4.out f hfm)
          have hcl := fun i v hv => HV4.out (j * 4 + i) v (cells_at its j f hf i v hv)
          obtain ⟨g, rfl, hgl, _⟩ := hcl 0 _ rfl
          have HCL := Lib.hid (show ∀ (i : Nat) (v : Value), (fieldC f.kind (f.n : Int) f.s (.slice f.a f.xs.length f.c))[i]? = some v → wr.cell? ⟨g, j * 4 + i, none⟩ = some v from fun i v hv => by
            obtain ⟨g', hg', _, hc'⟩ := hcl i v hv
            simp only [Option.some.injEq, Addr.mk.injEq, and_true] at hg'
            subst hg'
            exact (HBL.out.cell (p := ⟨g, j * 4 + i, none⟩) hgl).trans hc')
          obtain ⟨R0, hR0⟩ : ∃ R0, encs (its.drop (j + 1)) = R0 := ⟨_, rfl⟩
          have hRl : R0.length ≤ 7200 := by
            rw [← hR0]
            have h1 := encs_length (its.drop (j + 1)) (fun f hf => HI4.out f (List.mem_of_mem_drop hf))
            rw [List.length_drop] at h1
            have := HKL.out
            omega
          have HH := Lib.hid (show IsIn wr w4.heap.size (mkS (be 8 f.n ++ (textL f.s.data.toList ++ (textL (joinC f.xs) ++ (textL (bigL f.s.data.toList) ++ ([if decide ((9 : Int) < (f.n : Int)) then 1 else 0] ++ R0)))))) (evV E 0) by
            have h1 := HIN.out
            rw [hdr, encs_cons, hR0] at h1
            unfold encI at h1
            simp only [List.append_assoc] at h1
            exact h1)
          have HR0 := Lib.hid hR0
          have hb1 := bigL_length f.s.data.toList
          have hb2 := joinC_six HIT.out
          have hb3 := HIT.out.s
          rw [len_list] at hb1
          have HR5 := Lib.hid (show R0.length ≤ 1000000 by omega)
          have HR4 := Lib.hid (show ([if decide ((9 : Int) < (f.n : Int)) then 1 else 0] ++ R0).length ≤ 1000000 by simp only [List.length_append, List.length_cons, List.length_nil]; omega)
          have HR3 := Lib.hid (show (textL (bigL f.s.data.toList) ++ ([if decide ((9 : Int) < (f.n : Int)) then 1 else 0] ++ R0)).length ≤ 900000 by simp only [List.length_append, List.length_cons, List.length_nil, textL_length]; omega)
          have HR2 := Lib.hid (show (textL (joinC f.xs) ++ (textL (bigL f.s.data.toList) ++ ([if decide ((9 : Int) < (f.n : Int)) then 1 else 0] ++ R0))).length ≤ 1000000 by simp only [List.length_append, List.length_cons, List.length_nil, textL_length]; omega)
          have HR1 := Lib.hid (show (textL f.s.data.toList ++ (textL (joinC f.xs) ++ (textL (bigL f.s.data.toList) ++ ([if decide ((9 : Int) < (f.n : Int)) then 1 else 0] ++ R0)))).length ≤ 1000000 by simp only [List.length_append, List.length_cons, List.length_nil, textL_length, len_list]; omega)
          have HJC := Lib.hid (show (joinC f.xs).length ≤ 4096 by omega)
          have hb40 : f.s.size ≤ 40 := hb3
          clear hf hfm hdr hcl hgl hR0 hb1 hb2 hb3
          have tok := True.intro
          go_wp2_with (first
            | (refine load_cells rfl 35 _ rfl g (j * 4) rfl (fieldC f.kind f.n f.s (.slice f.a f.xs.length f.c)) _ HCL.out Tryd.underlying35 rfl (by kernel_rfl) ?_; skip)
            | (have _t := tok
               refine Rg.store_fresh rfl 35 _ _ rfl (fieldC f.kind f.n f.s (.slice f.a f.xs.length f.c)) _ 35 rfl rfl (by kernel_rfl) rfl (by simp [fieldC, Value.oneCell']) ?_
               intro X hX hbX
               have g2 : X.cell? ⟨wr.heap.size, 2, none⟩ = some (.string f.s) := hX.cell 2 rfl
               have HX := Lib.hid (show Rg.Blk X wr.heap.size 35 #[.int .i64 f.kind, .int .u64 f.n, .string f.s, .slice f.a f.xs.length f.c] from hX)
               have HBX := Lib.hid hbX
               clear hX hbX _t tok))
          go_loop [13] (fun v => ∃ t : ByteArray, t.size ≤ 40 ∧ v = .string t ∧ strip t.data.toList = strip f.s.data.toList) (fun v => strSz' v)
          case atStart => exact ⟨f.s, hb40, rfl, rfl⟩
          case round =>
            obtain ⟨t, hts, rfl, hst⟩ := hrel
            have HST := Lib.hid hst
            clear hst
            by_cases hz : ∃ h : 0 < t.size, t[0] = 0
            · obtain ⟨htp, hz⟩ := hz
              have hl2 := toList_ne (s := t) (by omega)
              have hd : ((t[0].toNat : Int) == 0) = true := by rw [hz]; rfl
              have HS2 := Lib.hid ((strip_drop t htp hz).trans HST.out)
              have HSZ := Lib.hid (show (t.extract 1 t.size).size = t.size - 1 by rw [ByteArray.size_extract]; omega)
              have hI : (1 : Int) ≤ t.size := by omega
              clear hz
              go_wp2_with fail
              go_round
              case rel => exact ⟨_, by rw [HSZ.out]; omega, rfl, HS2.out⟩
              case measure =>
                show (t.extract 1 t.size).size < t.size
                rw [HSZ.out]; omega
            have htb : t.data.toList = strip f.s.data.toList := by
              rw [← HST.out]
              by_cases h0 : t.size = 0
              · exact (strip_empty t h0).symm
              · exact (strip_stop t (by omega) (fun e => hz ⟨by omega, e⟩)).symm
            have HTB := Lib.hid htb
            have ways : t.toList.isEmpty = true ∨ ∃ h : 0 < t.size, ((t[0].toNat : Int) == 0) = false := by
              by_cases h0 : t.size = 0
              · left; rw [toList_empty h0]; rfl
              · right
                refine ⟨by omega, ?_⟩
                rw [beq_eq_false_iff_ne]; intro e
                exact hz ⟨by omega, by apply UInt8.toNat_inj.1; simpa using e⟩
            have HXS := Lib.hid (show wr.heap.size < X.heap.size from HX.out.lt)
            have HWI := Lib.hid (show w4.heap.size < wr.heap.size from HIN.out.lt)
            have HFI := Lib.hid (show wr.heap.size ≠ w4.heap.size by have := HWI.out; omega)
            have HBL6 := Lib.hid (show Below w4.heap.size w4 (World.drew X) from (HBL.out.trans ((HBX.out.trans (Below.drew (Below.refl _ _))).mono HBL.out.size)))
            have hU6 : Rg.Blk (World.drew X) wr.heap.size 35 #[.int .i64 f.kind, .int .u64 f.n, .string f.s, .slice f.a f.xs.length f.c] := HX.out.below (Below.drew (Below.refl _ _)) HXS.out
            have HUB6 := Lib.hid hU6
            have HUX := Lib.hid HX.out
            have H6 := Lib.hid ((HH.out.below HBX.out HH.out.lt).below (Below.drew (Below.refl _ _)) (Nat.lt_of_lt_of_le HH.out.lt HBX.out.size))
            have g1 := HX.out.cell 1 rfl
            have g3 := HX.out.cell 3 rfl
            clear hz htb hU6
            rcases ways with hl1 | ⟨htp, hd⟩
            all_goals
              first
                | have hl2 := toList_ne (s := t) (by omega)
                | skip
              go_wp2_with fail
              go_region_held3 (fun w' => w'.cell? ⟨wr.heap.size, 1, none⟩ = some (.int .u64 f.n) ∧ w'.cell? ⟨wr.heap.size, 2, none⟩ = some (.string f.s) ∧ w'.cell? ⟨wr.heap.size, 3, none⟩ = some (.slice f.a f.xs.length f.c)) (go_keep)
                (first
              | (go_at_call 26; go_loud (refine (U64_back _ E w4.heap.size f.n _ HIT.out.n HR1.out (HE4.out.below HBL6.out) HGL.out H6.out).mono ?_); rintro e w7 ⟨rfl, h7, hg7⟩
                 have hbk : Rg.Blk w7 wr.heap.size 35 #[.int .i64 f.kind, .int .u64 f.n, .string f.s, .slice f.a f.xs.length f.c] := blk_grown HUB6.out hg7 HFI.out
                 have g1 := hbk.cell 1 rfl
                 have g2 := hbk.cell 2 rfl
                 have g3 := hbk.cell 3 rfl
                 have H7 := Lib.hid (show IsIn w7 w4.heap.size _ (evV E 0) from h7)
                 have HBL7 := Lib.hid (HBL6.out.grown hg7 HBL6.out.size (fun k hk => by cases hk; exact Nat.le_refl _))
                 have HUB7 := Lib.hid hbk
                 clear hbk hg7 h7)
              | (go_at_call 27; go_loud (refine (Text_back _ E w4.heap.size f.s _ HIT.out.s HR2.out (HE4.out.below HBL7.out) HGL.out H7.out).mono ?_); rintro e w8 ⟨rfl, h8, hg8⟩
                 have hbk : Rg.Blk w8 wr.heap.size 35 #[.int .i64 f.kind, .int .u64 f.n, .string f.s, .slice f.a f.xs.length f.c] := blk_grown HUB7.out hg8 HFI.out
                 have g1 := hbk.cell 1 rfl
                 have g2 := hbk.cell 2 rfl
                 have g3 := hbk.cell 3 rfl
                 have H8 := Lib.hid (show IsIn w8 w4.heap.size _ (evV E 0) from h8)
                 have HBL8 := Lib.hid (HBL7.out.grown hg8 HBL7.out.size (fun k hk => by cases hk; exact Nat.le_refl _))
                 have HUB8 := Lib.hid hbk
                 clear hbk hg8 h8)
              | (go_at_call 29; go_loud (refine (Names_back _ E w4.heap.size f.xs _ HJC.out HIT.out.ok HR3.out (HE4.out.below HBL8.out) HGL.out (HM4.out _ HBL8.out) HGM.out H8.out).mono ?_); rintro e w9 ⟨A9, rfl, hr9, h9, hg9⟩
                 have hbk : Rg.Blk w9 wr.heap.size 35 #[.int .i64 f.kind, .int .u64 f.n, .string f.s, .slice f.a f.xs.length f.c] := blk_grown HUB8.out hg9 HFI.out
                 have g1 := hbk.cell 1 rfl
                 have g2 := hbk.cell 2 rfl
                 have g3 := hbk.cell 3 rfl
                 have H9 := Lib.hid (show IsIn w9 w4.heap.size _ (evV E 0) from h9)
                 have HBL9 := Lib.hid (HBL8.out.grown hg9 HBL8.out.size (fun k hk => by cases hk; exact Nat.le_refl _))
                 have HUB9 := Lib.hid hbk
                 have HRN := Lib.hid hr9
                 clear hr9; clear hbk hg9 h9)
              | (go_at_call 28; go_loud (refine (same_true _ A9 f.a _ _ f.xs HRN.out (HIT.out.rd.rd.below HBL9.out) (by have := HIT.out.few; omega)).mono ?_); rintro e w10 ⟨rfl, hg10⟩
                 have hbk : Rg.Blk w10 wr.heap.size 35 #[.int .i64 f.kind, .int .u64 f.n, .string f.s, .slice f.a f.xs.length f.c] := HUB9.out.below hg10 HUB9.out.lt
                 have g1 := hbk.cell 1 rfl
                 have g2 := hbk.cell 2 rfl
                 have g3 := hbk.cell 3 rfl
                 have H10 := Lib.hid (show IsIn w10 w4.heap.size _ (evV E 0) from (H9.out.below hg10 H9.out.lt))
                 have HBL10 := Lib.hid (HBL9.out.trans (hg10.mono HBL9.out.size))
                 have HUB10 := Lib.hid hbk
                 clear hbk hg10)
              | (go_at_call 30; go_loud (refine (Big_back _ E w4.heap.size f.s t _ HIT.out.s HTB.out HR4.out (HE4.out.below HBL10.out) HGL.out H10.out).mono ?_); rintro e w11 ⟨rfl, h11, hg11⟩
                 have hbk : Rg.Blk w11 wr.heap.size 35 #[.int .i64 f.kind, .int .u64 f.n, .string f.s, .slice f.a f.xs.length f.c] := blk_grown HUB10.out hg11 HFI.out
                 have g1 := hbk.cell 1 rfl
                 have g2 := hbk.cell 2 rfl
                 have g3 := hbk.cell 3 rfl
                 have H11 := Lib.hid (show IsIn w11 w4.heap.size _ (evV E 0) from h11)
                 have HBL11 := Lib.hid (HBL10.out.grown hg11 HBL10.out.size (fun k hk => by cases hk; exact Nat.le_refl _))
                 have HUB11 := Lib.hid hbk
                 clear hbk hg11 h11)
              | (go_at_call 31; go_loud (refine (Bool_back _ E w4.heap.size (decide ((9 : Int) < (f.n : Int))) _ HR5.out (HE4.out.below HBL11.out) HGL.out H11.out).mono ?_); rintro e w12 ⟨rfl, h12, hg12⟩
                 have hbk : Rg.Blk w12 wr.heap.size 35 #[.int .i64 f.kind, .int .u64 f.n, .string f.s, .slice f.a f.xs.length f.c] := blk_grown HUB11.out hg12 HFI.out
                 have g1 := hbk.cell 1 rfl
                 have g2 := hbk.cell 2 rfl
                 have g3 := hbk.cell 3 rfl
                 have H12 := Lib.hid (show IsIn w12 w4.heap.size _ (evV E 0) from h12)
                 have HBL12 := Lib.hid (HBL11.out.grown hg12 HBL11.out.size (fun k hk => by cases hk; exact Nat.le_refl _))
                 have HUB12 := Lib.hid hbk
                 clear hbk hg12 h12))
              have hne1 : (f.s.toList != f.s.toList) = false := by simp
              go_wp2_with fail
              go_roundw
              case rel =>
                have hr : IsIn w12 w4.heap.size (mkS (encs (its.drop (j + 1)))) (evV E 0) := by rw [HR0.out]; exact H12.out
                first
                  | exact ⟨j + 1, by omega, by go_num, hr, HBL12.out⟩
                  | ((repeat apply Exists.intro); refine ⟨?_, rfl⟩; exact ⟨j + 1, by omega, by go_num, hr, HBL12.out⟩)
              case measure => simp [intOf]; omega
        · obtain rfl : j = k := by omega
          have hdj : decide (j < j) = false := by simp
          have HI0 := Lib.hid (show IsIn wr w4.heap.size ⟨#[]⟩ (evV E 0) by
            have h1 := HIN.out
            rw [List.drop_of_length_le (Nat.le_of_eq HKL.out)] at h1
            exact h1)
          go_wp2_with (first
            | (go_at_call 32; refine (InEnd_any _ E w4.heap.size ⟨#[]⟩ 0 (HE4.out.below HBL.out) HGL.out HI0.out).mono ?_; rintro e w7 ⟨rfl, h7, hg7⟩; skip
               rw [aw_end.2, aw_end.1] at h7
               rw [aw_end.1, evV_zero]
               have H7 := Lib.hid h7
               have HBL7 := Lib.hid (HBL.out.grown hg7 HBL.out.size (fun k hk => by cases hk; exact Nat.le_refl _))
               clear h7 hg7)
            | (go_at_call 33; go_loud (refine (InLeft_any _ E w4.heap.size ⟨#[]⟩ _ H7.out).mono ?_); rintro e w8 ⟨rfl, rfl⟩; skip))
          go_ret
          exact ⟨rfl, HB4.out.trans (HBL7.out.mono HB4.out.size)⟩
end Go.Proofs.YtkpecnkflibmjaaDoor.Wi
