/- (message.Msg).Check. -/
import Derived.Test.YtjfikbnfabdkoaaGreatDoorMsgCnt
import Derived.Test.YtjfikbnfabdkoaaGreatDoorMsgB
set_option linter.unusedVariables false
set_option linter.unusedSimpArgs false
namespace Go.Proofs.YtjfikbnfabdkoaaGreatDoor.Mg
open Go.RowKit Go.Proofs.YtjfikbnfabdkoaaGreatDoor.Wi Go.Proofs.YtjfikbnfabdkoaaGreatDoor.Ow Go.Proofs.YtjfikbnfabdkoaaGreatDoor.Be
theorem ltr_len (k : Int) : (ltr k).length ≤ 100 := by
  have h : rowsL.all (fun r => decide (r.2.2.length ≤ 100)) = true := by decide +kernel
  unfold ltr
  cases hr : rowOf k with
  | none => exact Nat.zero_le _
  | some r => simpa using List.all_eq_true.1 h r (rowOf_mem hr).1
/-- a round's head: what is left of the letters, of the texts and of the lists gives what all gave -/
structure ChkAt (w : World) (fb : Nat) (kind : Int) (vu vb : Value) (l : List UInt8) (R : Bool × Bool) (k : Nat) (wrong big : Bool) (ss : List ByteArray) (nn : List (List ByteArray)) (vs vn : Value) (wr : World) : Prop where
  ls : ss.length = cntS (l.drop k)
  ln : nn.length = (l.drop k).count 110
  s : SL w vs (ss.map Value.string)
  n : SLN w vn nn
  fit : ∀ x ∈ nn, x.length ≤ 100000 ∧ (joinC x).length ≤ 1000000 ∧ ∀ y ∈ x, y.size ≤ 1000000
  c : chk (l.drop k) ss nn wrong big = R
  f : Rg.Blk wr fb 86 (mC kind vu vs vn vb)
  b : Below w.heap.size w wr
def ChkRel (w : World) (fb : Nat) (kind : Int) (vu vb : Value) (l : List UInt8) (R : Bool × Bool) (k : Nat) (wrong big : Bool) (wr : World) : Prop := ∃ ss nn vs vn, ChkAt w fb kind vu vb l R k wrong big ss nn vs vn wr
theorem drop_cons (l : List UInt8) (k : Nat) (c : UInt8) (h : l[k]? = some c) : l.drop k = c :: l.drop (k + 1) := by
  obtain ⟨hl, rfl⟩ := List.getElem?_eq_some_iff.1 h
  exact List.drop_eq_getElem_cons hl
theorem ChkAt.skip {w wr : World} {fb : Nat} {kind : Int} {vu vb vs vn : Value} {l : List UInt8} {R : Bool × Bool} {k : Nat} {wrong big : Bool} {ss : List ByteArray} {nn : List (List ByteArray)} (h : ChkAt w fb kind vu vb l R k wrong big ss nn vs vn wr) {c : UInt8} (hc : l[k]? = some c) (h1 : c ≠ 99) (h2 : c ≠ 115) (h3 : c ≠ 114) (h4 : c ≠ 110) :
    ChkRel w fb kind vu vb l R (k + 1) wrong big wr := by
  have hd := drop_cons l k c hc
  have h9 := h.c
  refine ⟨ss, nn, vs, vn, ?_, ?_, h.s, h.n, h.fit, ?_, h.f, h.b⟩
  · have := h.ls; rw [hd] at this; unfold cntS at *; simpa [List.count_cons, h1, h2, h3] using this
  · have := h.ln; rw [hd] at this; simpa [List.count_cons, h4] using this
  · rw [hd] at h9; simpa [chk, h1, h2, h3, h4] using h9
theorem ChkAt.text {w wr : World} {fb : Nat} {kind : Int} {vu vb vs vn : Value} {l : List UInt8} {R : Bool × Bool} {k : Nat} {wrong big : Bool} {ss : List ByteArray} {nn : List (List ByteArray)} (h : ChkAt w fb kind vu vb l R k wrong big ss nn vs vn wr) {c : UInt8} (hc : l[k]? = some c) (h1 : c = 99 ∨ c = 115 ∨ c = 114) (hw : w.heap.size ≤ fb) :
    ∃ x b o n cp, vs = .slice (some ⟨b, o, none⟩) (n + 1) cp ∧ n + 1 ≤ cp ∧ cp ≤ maxLen ∧ wr.cell? ⟨b, o, none⟩ = some (.string x) ∧ ∀ A' wr', (n ≠ 0 → A' = some ⟨b, o + 1, none⟩) → Rg.Blk wr' fb 86 (mC kind vu (.slice A' n (cp - 1)) vn vb) → wr.grownBy wr' (some fb) →
      ChkRel w fb kind vu vb l R (k + 1) (if c = 99 then decide (x.size ≠ 16) || wrong else wrong) (if c = 99 then big else decide (32768 < x.size) || big) wr' := by
  have hd := drop_cons l k c hc
  have h9 := h.c
  have hl := h.ls
  have hn := h.ln
  rw [hd] at hl hn h9
  cases ss with
  | nil => rcases h1 with rfl | rfl | rfl <;> simp [cntS] at hl <;> omega
  | cons x ss =>
    obtain ⟨b, o, cp, e, hcell, hlt, h4, h5, h6⟩ := SL.first (xs := ss.map Value.string) h.s
    rw [List.length_map] at *
    refine ⟨x, b, o, ss.length, cp, e, h4, h5, (h.b.cell (p := ⟨b, o, none⟩) hlt).trans hcell, fun A' wr' hA hB hg => ⟨ss, nn, _, vn, ?_, ?_, h6 A' hA, h.n, h.fit, ?_, hB, h.b.grown hg h.b.size (fun k hk => by cases hk; exact hw)⟩⟩
    · rcases h1 with rfl | rfl | rfl <;> simp [cntS] at hl ⊢ <;> omega
    · rcases h1 with rfl | rfl | rfl <;> simpa [List.count_cons] using hn
    · rcases h1 with rfl | rfl | rfl <;> simpa [chk, Mg.hd] using h9
theorem ChkAt.names {w wr : World} {fb : Nat} {kind : Int} {vu vb vs vn : Value} {l : List UInt8} {R : Bool × Bool} {k : Nat} {wrong big : Bool} {ss : List ByteArray} {nn : List (List ByteArray)} (h : ChkAt w fb kind vu vb l R k wrong big ss nn vs vn wr) (hc : l[k]? = some 110) (hw : w.heap.size ≤ fb) :
    ∃ (x : List ByteArray) (b o n cp : Nat) (xa : Option Addr) (xn xc : Nat), vn = .slice (some ⟨b, o, none⟩) (n + 1) cp ∧ n + 1 ≤ cp ∧ cp ≤ maxLen ∧ wr.cell? ⟨b, o, none⟩ = some (.slice xa xn xc) ∧ x.length = xn ∧ xn ≤ xc ∧ Rd w xa (x.map Value.string) ∧ (x.length ≤ 100000 ∧ (joinC x).length ≤ 1000000 ∧ ∀ y ∈ x, y.size ≤ 1000000) ∧
      ∀ A' wr' wr'', (n ≠ 0 → A' = some ⟨b, o + 1, none⟩) → Rg.Blk wr' fb 86 (mC kind vu vs (.slice A' n (cp - 1)) vb) → wr.grownBy wr' (some fb) → Below wr'.heap.size wr' wr'' →
      ChkRel w fb kind vu vb l R (k + 1) (wrong || !x.all okN) (big || (x.all okN && decide (4096 < (joinC x).length))) wr'' := by
  have hd := drop_cons l k _ hc
  have h9 := h.c
  have hl := h.ls
  have hn := h.ln
  rw [hd] at hl hn h9
  cases nn with
  | nil => simp at hn
  | cons x nn =>
    obtain ⟨b, o, cp, u, e, hcell, hu, hlt, h4, h5, h6⟩ := SLN.first h.n
    obtain ⟨xa, xn, xc, rfl, e2, hR, hxc, _⟩ := hu
    rw [List.length_map] at e2
    refine ⟨x, b, o, nn.length, cp, xa, xn, xc, e, h4, h5, (h.b.cell (p := ⟨b, o, none⟩) hlt).trans hcell, e2, hxc, hR, h.fit x (List.mem_cons_self ..), fun A' wr' wr'' hA hB hg hb => ⟨ss, nn, vs, _, ?_, ?_, h.s, h6 A' hA, fun y hy => h.fit y (List.mem_cons_of_mem _ hy), ?_, hB.below hb hB.lt, (h.b.grown hg h.b.size (fun k hk => by cases hk; exact hw)).trans (hb.mono (Nat.le_trans h.b.size hg.size))⟩⟩
    · simpa [cntS] using hl
    · simpa [List.count_cons] using hn
    · simpa [chk] using h9
theorem Below.grow2 {w0 w w' : World} {fb : Nat} (h : Below w0.heap.size w0 w) (hg : w.grownBy w' (some fb)) (hf : w0.heap.size ≤ fb) : Below w0.heap.size w0 w' := h.grown hg h.size (fun k hk => by cases hk; exact hf)
set_option maxRecDepth 20000 in
set_option maxHeartbeats 8000000 in
theorem Check_any (w : World) (a : Nat → Addr) (hE : ErrsM w a) (hT : TabR w) (m : Msg) (vu vs vn vb : Value) (hm : IsMsg w m vu vs vn vb) (hf : Fit m) :
    Calls Tryz.prog 36 #[.agg (mC m.kind vu vs vn vb)] w fun e w' => e = .returned (Ei.evA a (checkC m)) ∧ Below w.heap.size w w' := by
  obtain ⟨kind, us, ss, ns, bs⟩ := m
  have HE := Lib.hid hE
  have HT := Lib.hid hT
  have HM := Lib.hid hm
  have HF := Lib.hid hf
  obtain ⟨l, hl⟩ : ∃ l, ltr kind = l := ⟨_, rfl⟩
  obtain ⟨is, his⟩ : ∃ is, isK kind = is := ⟨_, rfl⟩
  obtain ⟨ls, hls⟩ : ∃ ls, mkS l = ls := ⟨_, rfl⟩
  have HL := Lib.hid hl
  have HIS := Lib.hid his
  have HLS := Lib.hid hls
  have HLL := Lib.hid (show l.length ≤ 100 by rw [← hl]; exact ltr_len kind)
  have HLZ := Lib.hid (show ls.size = l.length by rw [← hls]; exact mkS_size l)
  have HLG := Lib.hid (show ls.data.toList = l by rw [← hls]; exact mkS_list l)
  have HFI := Lib.hid (show ∀ W, Below w.heap.size w W → Calls Tryz.prog 28 #[.int .i64 kind] W fun e w' => e = .returned (.tuple #[.string ls, .bool is]) ∧ Below W.heap.size W w' from fun W hW => by
    have := Fields_any W kind (HT.out.below hW)
    rw [hl, his, hls] at this; exact this)
  obtain ⟨au, nu, cu, rfl, hlu, _⟩ := hm.u
  obtain ⟨aS, nS, cs, rfl, hlS, _⟩ := hm.s
  obtain ⟨vns, ⟨an, nn, cn, rfl, hln0, _⟩, hln, _⟩ := hm.n
  obtain ⟨ab, nb, cb, rfl, hlb, _⟩ := hm.b
  simp only [List.length_map] at hlu hlS hlb
  have HLU := Lib.hid hlu
  have HLT := Lib.hid hlS
  have HLN := Lib.hid (show ns.length = nn from hln.symm.trans hln0)
  have HLB := Lib.hid hlb
  have HCN := Lib.hid (fun W => counted_any W kind au aS an ab nu nS nn nb cu cs cn cb l HLL.out)
  rw [hls] at HCN
  have HA0 := Lib.hid (show Below w.heap.size w (w.alloc (.cells #[.int .i64 kind, .slice au nu cu, .slice aS nS cs, .slice an nn cn, .slice ab nb cb] 47)) from (Below.refl _ _).alloc (Nat.le_refl _) _)
  have HB0 := Lib.hid (show Rg.Blk (w.alloc (.cells #[.int .i64 kind, .slice au nu cu, .slice aS nS cs, .slice an nn cn, .slice ab nb cb] 47)) w.heap.size 47 #[.int .i64 kind, .slice au nu cu, .slice aS nS cs, .slice an nn cn, .slice ab nb cb] from Rg.Blk.new w _ _)
  clear hE hT hm hf hl his hls hlu hlS hln0 hln hlb
  unfold mC at HCN ⊢
  cases is with
  | false =>
    have HC := Lib.hid (show checkC ⟨kind, us, ss, ns, bs⟩ = 20 by unfold checkC; rw [if_pos HIS.out])
    go_enter Tryz.func36, Tryz.ntmps36
    go_wp2_with (go_at_call 28; refine (HFI.out _ HA0.out).mono ?_; rintro e w1 ⟨rfl, hb1⟩; have hb2 := HA0.out.trans (hb1.mono HA0.out.size); have ec : w1.cell? ⟨19, 0, none⟩ = some (.iface 162 (.pointer (some (a 20)))) := (HE.out.below hb2).cell 19 (by decide); have HB2 := Lib.hid hb2; clear hb1 hb2)
    go_ret
    exact ⟨by rw [HC.out]; rfl, HB2.out⟩
  | true =>
    obtain ⟨ok, hok⟩ : ∃ ok, (decide (nu = l.count 117) && decide (nS = cntS l) && decide (nn = l.count 110) && decide (nb = l.count 98)) = ok := ⟨_, rfl⟩
    have HCT := Lib.hid (show counted (ltr kind) ⟨kind, us, ss, ns, bs⟩ = ok by unfold counted; rw [HL.out]; simp only; rw [HLU.out, HLT.out, HLN.out, HLB.out]; exact hok)
    rw [hok] at HCN
    have HOK := Lib.hid hok
    clear hok
    cases ok with
    | false =>
      have HC := Lib.hid (show checkC ⟨kind, us, ss, ns, bs⟩ = 1 by unfold checkC; rw [if_neg (by rw [HIS.out]; decide), if_pos HCT.out])
      go_enter Tryz.func36, Tryz.ntmps36
      go_wp2_with (first
        | (go_at_call 28; refine (HFI.out _ HA0.out).mono ?_; rintro e w1 ⟨rfl, hb1⟩; skip
           have HB2 := Lib.hid (HA0.out.trans (hb1.mono HA0.out.size)); have HM1 := Lib.hid (HB0.out.below hb1 HB0.out.lt); clear hb1)
        | (refine wpList_load_row rfl 47 _ rfl _ rfl _ _ _ _ HM1.out Tryz.underlying47 rfl (by kernel_rfl) ?_; skip)
        | (go_at_call 62; refine (HCN.out _).mono ?_; rintro e w2 ⟨rfl, hb2⟩; skip
           have hb3 := HB2.out.trans (hb2.mono HB2.out.size)
           have ec : w2.cell? ⟨2, 0, none⟩ = some (.iface 162 (.pointer (some (a 1)))) := (HE.out.below hb3).cell 0 (by decide)
           have HB3 := Lib.hid hb3; clear hb2 hb3))
      go_ret
      exact ⟨by rw [HC.out]; rfl, HB3.out⟩
    | true =>
      have HW := Lib.hid (show decide (nu = l.count 117) = true ∧ decide (nS = cntS l) = true ∧ decide (nn = l.count 110) = true by have := HOK.out; simp only [Bool.and_eq_true] at this; exact ⟨this.1.1.1, this.1.1.2, this.1.2⟩)
      obtain ⟨R, hR⟩ : ∃ R, chk l ss ns false false = R := ⟨_, rfl⟩
      have HC := Lib.hid (show checkC ⟨kind, us, ss, ns, bs⟩ = if R.1 then 1 else if R.2 then 4 else 0 by unfold checkC; rw [if_neg (by rw [HIS.out]; decide), if_neg (by rw [HCT.out]; decide)]; simp only; rw [HL.out, hR])
      have HR := Lib.hid hR
      clear hR
      obtain ⟨q, hq⟩ : ∃ q, l.length = q := ⟨_, rfl⟩
      have hq1 : q ≤ 100 := by rw [← hq]; exact HLL.out
      have hlz : ls.size = q := HLZ.out.trans hq
      have HQ := Lib.hid hq
      have HLQ := Lib.hid hlz
      clear hq
      clear hlz
      have tok := True.intro
      go_enter Tryz.func36, Tryz.ntmps36
      go_wp2_with (first
        | (go_at_call 28; refine (HFI.out _ HA0.out).mono ?_; rintro e w1 ⟨rfl, hb1⟩; skip
           have HB2 := Lib.hid (HA0.out.trans (hb1.mono HA0.out.size)); have HM1 := Lib.hid (HB0.out.below hb1 HB0.out.lt); clear hb1)
        | (have _t := tok; refine wpList_load_row rfl 47 _ rfl _ rfl _ _ _ _ HM1.out Tryz.underlying47 rfl (by kernel_rfl) ?_; clear _t tok)
        | (go_at_call 62; refine (HCN.out _).mono ?_; rintro e w2 ⟨rfl, hb2⟩; skip
           have HB3 := Lib.hid (HB2.out.trans (hb2.mono HB2.out.size)); have HM2 := Lib.hid (HM1.out.below hb2 HM1.out.lt); have tok2 := True.intro; clear hb2)
        | (have _t := tok2; refine wpList_load_row rfl 47 _ rfl _ rfl _ _ _ _ HM2.out Tryz.underlying47 rfl (by kernel_rfl) ?_; clear _t tok2))
      have hX : Rg.Blk (w2.alloc (.cells #[.int .i64 kind, .slice au nu cu, .slice aS nS cs, .slice an nn cn, .slice ab nb cb] 86)) w2.heap.size 86 #[.int .i64 kind, .slice au nu cu, .slice aS nS cs, .slice an nn cn, .slice ab nb cb] := Rg.Blk.new w2 _ _
      have hXW : Below w.heap.size w (w2.alloc (.cells #[.int .i64 kind, .slice au nu cu, .slice aS nS cs, .slice an nn cn, .slice ab nb cb] 86)) := HB3.out.alloc HB3.out.size _
      generalize w2.alloc (.cells #[.int .i64 kind, .slice au nu cu, .slice aS nS cs, .slice an nn cn, .slice ab nb cb] 86) = X at *
      have HWF := Lib.hid HB3.out.size
      have HX := Lib.hid hX
      have HXW := Lib.hid hXW
      clear hX hXW
      go_loopw [5, 6, 30] (fun v5 v6 i wr => ∃ (k : Nat) (wrong big : Bool), k ≤ q ∧ i = .int .i64 k ∧ v5 = .bool wrong ∧ v6 = .bool big ∧ ChkRel w w2.heap.size kind (.slice au nu cu) (.slice ab nb cb) l R k wrong big wr) (fun _ _ i _ => 200 - (intOf i).toNat)
      case atStart =>
        refine ⟨0, false, false, Nat.zero_le _, rfl, rfl, rfl, ss, ns, _, _, ?_, ?_, HM.out.s, HM.out.n, HF.out.n, HR.out, HX.out, HXW.out⟩
        · rw [HLT.out]; simpa using HW.out.2.1
        · rw [HLN.out]; simpa using HW.out.2.2
      case round =>
        obtain ⟨k, wrong, big, hk, rfl, rfl, rfl, hrel⟩ := hrel
        obtain ⟨ss1, nn1, vs1, vn1, hat⟩ := hrel
        have HAT := Lib.hid hat
        clear hat
        by_cases hkq : k < q
        · have hlz2 := HLQ.out
          have hks : k < ls.size := by omega
          have hik : (k : Int) < ls.size := by omega
          have hd0 : decide (k < ls.size) = true := by simp; exact hks
          have hx : l[k]? = some ls[k] := by rw [← HLG.out]; exact get_list ls k hks
          clear hlz2
          generalize hxx : ls[k] = x at *
          have HX1 := Lib.hid hx
          clear hx
          have EQ := Lib.hid (show ∀ c : UInt8, x ≠ c → ((x.toNat : Int) == c.toNat) = false from fun c hc => by rw [beq_eq_false_iff_ne]; intro e; exact hc (UInt8.toNat_inj.1 (by omega)))
          by_cases h99 : x = 99
          · subst h99
            have e99 : (((99 : UInt8).toNat : Int) == 99) = true := rfl
            obtain ⟨y, b, o, n, cp, rfl, h4, h5, hcell, hnext⟩ := HAT.out.text HX1.out (by decide) HWF.out
            have HNX := Lib.hid hnext
            have HCALL := Lib.hid (s_any wr w2.heap.size kind b o n cp y _ _ _ HAT.out.f hcell h4 h5)
            clear hnext h4 h5 hcell
            by_cases ht : y.size = 16
            · 
              have ht2 : ((y.size : Int) != 16) = false := by simp; omega
              have HNW := Lib.hid (show (decide (y.size ≠ 16) || wrong) = wrong by simp [ht])
              clear ht
              go_wp2_with (go_at_call 43; refine HCALL.out.mono ?_; rintro e w4 ⟨rfl, ⟨A', h4, h4a⟩, h4g⟩; skip; have hn := HNX.out A' w4 h4a h4 h4g; simp only [if_pos (show (99 : UInt8) = 99 from rfl)] at hn; rw [HNW.out] at hn; have HN := Lib.hid hn; clear hn h4 h4a h4g)
              go_roundw
              case rel =>
                first
                  | exact ⟨k + 1, _, _, by omega, by go_num, rfl, rfl, HN.out⟩
                  | ((repeat apply Exists.intro); refine ⟨?_, rfl⟩; exact ⟨k + 1, _, _, by omega, by go_num, rfl, rfl, HN.out⟩)
              case measure => simp [intOf]; omega
            · 
              have ht2 : ((y.size : Int) != 16) = true := by rw [bne_iff_ne]; omega
              have HNW := Lib.hid (show (decide (y.size ≠ 16) || wrong) = true by simp [ht])
              clear ht
              go_wp2_with (go_at_call 43; refine HCALL.out.mono ?_; rintro e w4 ⟨rfl, ⟨A', h4, h4a⟩, h4g⟩; skip; have hn := HNX.out A' w4 h4a h4 h4g; simp only [if_pos (show (99 : UInt8) = 99 from rfl)] at hn; rw [HNW.out] at hn; have HN := Lib.hid hn; clear hn h4 h4a h4g)
              go_roundw
              case rel =>
                first
                  | exact ⟨k + 1, _, _, by omega, by go_num, rfl, rfl, HN.out⟩
                  | ((repeat apply Exists.intro); refine ⟨?_, rfl⟩; exact ⟨k + 1, _, _, by omega, by go_num, rfl, rfl, HN.out⟩)
              case measure => simp [intOf]; omega
          by_cases h115 : x = 115
          · subst h115
            have e99 : (((115 : UInt8).toNat : Int) == 99) = false := rfl
            have e115 : (((115 : UInt8).toNat : Int) == 115) = true := rfl
            obtain ⟨y, b, o, n, cp, rfl, h4, h5, hcell, hnext⟩ := HAT.out.text HX1.out (by decide) HWF.out
            have HNX := Lib.hid hnext
            have HCALL := Lib.hid (s_any wr w2.heap.size kind b o n cp y _ _ _ HAT.out.f hcell h4 h5)
            clear hnext h4 h5 hcell
            by_cases ht : 32768 < y.size
            · 
              have ht2 : decide ((32768 : Int) < y.size) = true := by simp; omega
              have HNW := Lib.hid (show (decide (32768 < y.size) || big) = true by simp [ht])
              clear ht
              go_wp2_with (go_at_call 43; refine HCALL.out.mono ?_; rintro e w4 ⟨rfl, ⟨A', h4, h4a⟩, h4g⟩; skip; have hn := HNX.out A' w4 h4a h4 h4g; simp only [if_neg (show ¬ (115 : UInt8) = 99 by decide)] at hn; rw [HNW.out] at hn; have HN := Lib.hid hn; clear hn h4 h4a h4g)
              go_roundw
              case rel =>
                first
                  | exact ⟨k + 1, _, _, by omega, by go_num, rfl, rfl, HN.out⟩
                  | ((repeat apply Exists.intro); refine ⟨?_, rfl⟩; exact ⟨k + 1, _, _, by omega, by go_num, rfl, rfl, HN.out⟩)
              case measure => simp [intOf]; omega
            · 
              have ht2 : decide ((32768 : Int) < y.size) = false := by simp; omega
              have HNW := Lib.hid (show (decide (32768 < y.size) || big) = big by simp [ht])
              clear ht
              go_wp2_with (go_at_call 43; refine HCALL.out.mono ?_; rintro e w4 ⟨rfl, ⟨A', h4, h4a⟩, h4g⟩; skip; have hn := HNX.out A' w4 h4a h4 h4g; simp only [if_neg (show ¬ (115 : UInt8) = 99 by decide)] at hn; rw [HNW.out] at hn; have HN := Lib.hid hn; clear hn h4 h4a h4g)
              go_roundw
              case rel =>
                first
                  | exact ⟨k + 1, _, _, by omega, by go_num, rfl, rfl, HN.out⟩
                  | ((repeat apply Exists.intro); refine ⟨?_, rfl⟩; exact ⟨k + 1, _, _, by omega, by go_num, rfl, rfl, HN.out⟩)
              case measure => simp [intOf]; omega
          by_cases h114 : x = 114
          · subst h114
            have e99 : (((114 : UInt8).toNat : Int) == 99) = false := rfl
            have e115 : (((114 : UInt8).toNat : Int) == 115) = false := rfl
            have e114 : (((114 : UInt8).toNat : Int) == 114) = true := rfl
            obtain ⟨y, b, o, n, cp, rfl, h4, h5, hcell, hnext⟩ := HAT.out.text HX1.out (by decide) HWF.out
            have HNX := Lib.hid hnext
            have HCALL := Lib.hid (s_any wr w2.heap.size kind b o n cp y _ _ _ HAT.out.f hcell h4 h5)
            clear hnext h4 h5 hcell
            by_cases ht : 32768 < y.size
            · 
              have ht2 : decide ((32768 : Int) < y.size) = true := by simp; omega
              have HNW := Lib.hid (show (decide (32768 < y.size) || big) = true by simp [ht])
              clear ht
              go_wp2_with (go_at_call 43; refine HCALL.out.mono ?_; rintro e w4 ⟨rfl, ⟨A', h4, h4a⟩, h4g⟩; skip; have hn := HNX.out A' w4 h4a h4 h4g; simp only [if_neg (show ¬ (114 : UInt8) = 99 by decide)] at hn; rw [HNW.out] at hn; have HN := Lib.hid hn; clear hn h4 h4a h4g)
              go_roundw
              case rel =>
                first
                  | exact ⟨k + 1, _, _, by omega, by go_num, rfl, rfl, HN.out⟩
                  | ((repeat apply Exists.intro); refine ⟨?_, rfl⟩; exact ⟨k + 1, _, _, by omega, by go_num, rfl, rfl, HN.out⟩)
              case measure => simp [intOf]; omega
            · 
              have ht2 : decide ((32768 : Int) < y.size) = false := by simp; omega
              have HNW := Lib.hid (show (decide (32768 < y.size) || big) = big by simp [ht])
              clear ht
              go_wp2_with (go_at_call 43; refine HCALL.out.mono ?_; rintro e w4 ⟨rfl, ⟨A', h4, h4a⟩, h4g⟩; skip; have hn := HNX.out A' w4 h4a h4 h4g; simp only [if_neg (show ¬ (114 : UInt8) = 99 by decide)] at hn; rw [HNW.out] at hn; have HN := Lib.hid hn; clear hn h4 h4a h4g)
              go_roundw
              case rel =>
                first
                  | exact ⟨k + 1, _, _, by omega, by go_num, rfl, rfl, HN.out⟩
                  | ((repeat apply Exists.intro); refine ⟨?_, rfl⟩; exact ⟨k + 1, _, _, by omega, by go_num, rfl, rfl, HN.out⟩)
              case measure => simp [intOf]; omega
          by_cases h110 : x = 110
          · subst h110
            have e99 : (((110 : UInt8).toNat : Int) == 99) = false := rfl
            have e115 : (((110 : UInt8).toNat : Int) == 115) = false := rfl
            have e114 : (((110 : UInt8).toNat : Int) == 114) = false := rfl
            have e110 : (((110 : UInt8).toNat : Int) == 110) = true := rfl
            obtain ⟨y, b, o, n, cp, xa, xn, xc, rfl, h4, h5, hcell, hyn, hyc, hRy, ⟨hy1, hy2, hy3⟩, hnext⟩ := HAT.out.names HX1.out HWF.out
            have HNX := Lib.hid hnext
            have HCALL := Lib.hid (n_any wr w2.heap.size kind b o n cp xa xn xc _ _ _ HAT.out.f hcell h4 h5)
            have HNM := Lib.hid (show ∀ W, Below w.heap.size w W → _ from fun W hW => names_any W xa xn xc y hyn hyc (by omega) (hRy.below hW) (fun z hz => by have := hy3 z hz; omega) hy2)
            have HBR := Lib.hid HAT.out.b
            clear hnext h4 h5 hcell hyn hyc hRy hy1 hy2 hy3
            generalize hall : y.all okN = all at *
            generalize hfit : decide ((joinC y).length ≤ 4096) = fit at *
            have HFT := Lib.hid (show decide (4096 < (joinC y).length) = !fit by rw [← hfit]; by_cases h : (joinC y).length ≤ 4096 <;> simp [h] <;> omega)
            clear hall hfit
            rw [HFT.out] at HNX
            cases all <;> cases fit <;> cases wrong <;> cases big
            all_goals
              go_wp2_with (first | (go_at_call 45; refine HCALL.out.mono ?_; rintro e w4 ⟨rfl, ⟨A', h4, h4a⟩, h4g⟩; skip; have HB4 := Lib.hid (Below.grow2 HBR.out h4g HWF.out); have HN4 := Lib.hid (fun wz hz => HNX.out A' w4 wz h4a h4 h4g hz); clear h4 h4a h4g) | (go_at_call 63; refine (HNM.out _ HB4.out).mono ?_; rintro e w5 ⟨rfl, hb5⟩; skip; have HN := Lib.hid (HN4.out w5 hb5); clear hb5))
              go_roundw
              case rel =>
                first
                  | exact ⟨k + 1, _, _, by omega, by go_num, rfl, rfl, HN.out⟩
                  | ((repeat apply Exists.intro); refine ⟨?_, rfl⟩; exact ⟨k + 1, _, _, by omega, by go_num, rfl, rfl, HN.out⟩)
              case measure => simp [intOf]; omega
          have HN := Lib.hid (HAT.out.skip HX1.out h99 h115 h114 h110)
          have e99 : ((x.toNat : Int) == 99) = false := EQ.out 99 h99
          have e115 : ((x.toNat : Int) == 115) = false := EQ.out 115 h115
          have e114 : ((x.toNat : Int) == 114) = false := EQ.out 114 h114
          have e110 : ((x.toNat : Int) == 110) = false := EQ.out 110 h110
          clear h99 h115 h114 h110
          go_wp2_with fail
          go_roundw
          case rel =>
            first
              | exact ⟨k + 1, _, _, by omega, by go_num, rfl, rfl, HN.out⟩
              | ((repeat apply Exists.intro); refine ⟨?_, rfl⟩; exact ⟨k + 1, _, _, by omega, by go_num, rfl, rfl, HN.out⟩)
          case measure => simp [intOf]; omega
        · obtain rfl : k = q := by omega
          have HLQ2 := Lib.hid HLQ.out
          have hd0 : decide (k < ls.size) = false := by have := HLQ2.out; simp; omega
          have hnk : ¬ k < ls.size := by have := HLQ2.out; omega
          have HRR := Lib.hid (show R = (wrong, big) by have := HAT.out.c; rw [List.drop_of_length_le (by rw [HQ.out]; exact Nat.le_refl _)] at this; exact this.symm)
          have ec1 : wr.cell? ⟨2, 0, none⟩ = some (.iface 162 (.pointer (some (a 1)))) := (HE.out.below HAT.out.b).cell 0 (by decide)
          have ec4 : wr.cell? ⟨5, 0, none⟩ = some (.iface 162 (.pointer (some (a 4)))) := (HE.out.below HAT.out.b).cell 3 (by decide)
          cases wrong
          · cases big
            · go_wp2_with fail
              go_ret
              exact ⟨by rw [HC.out, HRR.out]; rfl, HAT.out.b⟩
            · go_wp2_with fail
              go_ret
              exact ⟨by rw [HC.out, HRR.out]; rfl, HAT.out.b⟩
          · go_wp2_with fail
            go_ret
            exact ⟨by rw [HC.out, HRR.out]; rfl, HAT.out.b⟩
end Go.Proofs.YtjfikbnfabdkoaaGreatDoor.Mg
