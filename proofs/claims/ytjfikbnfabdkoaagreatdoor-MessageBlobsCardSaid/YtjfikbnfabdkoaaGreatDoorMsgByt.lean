/- (message.Msg).Bytes. -/
import Derived.Test.YtjfikbnfabdkoaaGreatDoorMsgChk
import Derived.Test.YtjfikbnfabdkoaaGreatDoorGenB
set_option linter.unusedVariables false
set_option linter.unusedSimpArgs false
namespace Go.Proofs.YtjfikbnfabdkoaaGreatDoor.Mg
open Go.RowKit Go.Proofs.YtjfikbnfabdkoaaGreatDoor.Wi Go.Proofs.YtjfikbnfabdkoaaGreatDoor.Ow Go.Proofs.YtjfikbnfabdkoaaGreatDoor.Be
theorem outKeptT {T0 : TypeId} {B b : Nat} {l : List UInt8} {w w' : World} (h : IsOut B b l w) (hk : KeptT T0 w w') (h1 : 81 ≠ T0) (h2 : 5 ≠ T0) : IsOut B b l w' := by
  have at_ : ∀ p, Lib.BuilderAt 81 5 B b p (bv l) w → Lib.BuilderAt 81 5 B b p (bv l) w' := by
    rintro p ⟨hB, v, hbk, hown, hne⟩
    exact ⟨hB, v, hk.row _ _ _ _ hbk h1, hk.owns hown h2, hne⟩
  exact h.imp (at_ _) (at_ _)
/-- a round's head: what has been written, and what is left gives all -/
structure BytAt (w W0 : World) (ob fb : Nat) (kind : Int) (l : List UInt8) (T : List UInt8) (k : Nat) (acc : List UInt8) (us : List Nat) (ss : List ByteArray) (nn : List (List ByteArray)) (bs : List Bool) (vu vs vn vb : Value) (wr : World) : Prop where
  lu : us.length = (l.drop k).count 117
  ls : ss.length = cntS (l.drop k)
  ln : nn.length = (l.drop k).count 110
  lb : bs.length = (l.drop k).count 98
  u : SL w vu (us.map fun (x : Nat) => Value.int .u32 (x : Int))
  s : SL w vs (ss.map Value.string)
  n : SLN w vn nn
  b : SL w vb (bs.map Value.bool)
  fu : ∀ x ∈ us, x < 4294967296
  fs : ∀ x ∈ ss, x.size ≤ 1000000
  fit : ∀ x ∈ nn, x.length ≤ 100000 ∧ (joinC x).length ≤ 1000000 ∧ ∀ y ∈ x, y.size ≤ 1000000
  good : goodL (l.drop k) = true
  c : acc ++ enc (l.drop k) us ss nn bs = T
  len : acc.length ≤ 1 + k * 1000004
  o : IsOut ob ob acc wr
  f : Rg.Blk wr fb 86 (mC kind vu vs vn vb)
  w0 : Below w.heap.size w W0
  bl : Below ob W0 wr
  hob : w.heap.size ≤ ob
  hobs : ob ≤ W0.heap.size
  hfb : ob < fb
def BytRel (w W0 : World) (ob fb : Nat) (kind : Int) (l : List UInt8) (T : List UInt8) (k : Nat) (wr : World) : Prop := ∃ acc us ss nn bs vu vs vn vb, BytAt w W0 ob fb kind l T k acc us ss nn bs vu vs vn vb wr
section
variable {w W0 wr : World} {ob fb : Nat} {kind : Int} {l T : List UInt8} {k : Nat} {acc : List UInt8} {us : List Nat} {ss : List ByteArray} {nn : List (List ByteArray)} {bs : List Bool} {vu vs vn vb : Value}
theorem BytAt.later (h : BytAt w W0 ob fb kind l T k acc us ss nn bs vu vs vn vb wr) : Below w.heap.size w wr := h.w0.trans (h.bl.mono h.hob)
theorem BytAt.outK (h : BytAt w W0 ob fb kind l T k acc us ss nn bs vu vs vn vb wr) {w4 : World} (hg : wr.grownBy w4 (some fb)) : IsOut ob ob acc w4 := outKeptT h.o (KeptT.grownAt hg h.f) (by decide) (by decide)
theorem BytAt.size (h : BytAt w W0 ob fb kind l T k acc us ss nn bs vu vs vn vb wr) {w4 : World} (hg : wr.grownBy w4 (some fb)) : ob ≤ w4.heap.size := Nat.le_trans h.hobs (Nat.le_trans h.bl.size hg.size)
theorem BytAt.below (h : BytAt w W0 ob fb kind l T k acc us ss nn bs vu vs vn vb wr) {w4 w5 : World} (hg : wr.grownBy w4 (some fb)) (hc : Bo.Calm ob ob w4 w5) : Below ob W0 w5 :=
  (h.bl.grown hg (Nat.le_trans h.hobs h.bl.size) (fun k hk => by cases hk; exact Nat.le_of_lt h.hfb)).trans hc.below
theorem fld_calm {w4 w5 : World} {cs : Array Value} (h : Rg.Blk w4 fb 86 cs) (hc : Bo.Calm ob ob w4 w5) (hf : ob < fb) : Rg.Blk w5 fb 86 cs := hc.kept _ _ _ _ h (by decide) (by omega)
theorem BytAt.num (h : BytAt w W0 ob fb kind l T k acc us ss nn bs vu vs vn vb wr) (hc : l[k]? = some 117) :
    ∃ (x b o n cp : Nat), vu = .slice (some ⟨b, o, none⟩) (n + 1) cp ∧ n + 1 ≤ cp ∧ cp ≤ maxLen ∧ wr.cell? ⟨b, o, none⟩ = some (.int .u32 (x : Int)) ∧ x < 4294967296 ∧ ∀ A' w4 w5, (n ≠ 0 → A' = some ⟨b, o + 1, none⟩) → Rg.Blk w4 fb 86 (mC kind (.slice A' n (cp - 1)) vs vn vb) → wr.grownBy w4 (some fb) →
      Bo.Calm ob ob w4 w5 → IsOut ob ob (acc ++ be 4 x) w5 → BytRel w W0 ob fb kind l T (k + 1) w5 := by
  have hd := drop_cons l k _ hc
  obtain ⟨hlu, hls, hln, hlb, hu, hs, hn, hb, fu, fs, fit, good, hc', hlen, ho, hf, hw0, hbl, hob, hobs, hfb⟩ := id h
  rw [hd] at hlu hls hln hlb good hc'
  cases us with
  | nil => simp at hlu
  | cons x us =>
    obtain ⟨b, o, cp, e, hcell, hlt, h4, h5, h6⟩ := SL.first (xs := us.map fun (x : Nat) => Value.int .u32 (x : Int)) hu
    rw [List.length_map] at *
    refine ⟨x, b, o, us.length, cp, e, h4, h5, (h.later.cell (p := ⟨b, o, none⟩) hlt).trans hcell, fu x (List.mem_cons_self ..), fun A' w4 w5 hA hB hg hcm hO => ⟨acc ++ be 4 x, us, ss, nn, bs, _, vs, vn, vb, ?_, ?_, ?_, ?_, h6 A' hA, hs, hn, hb, fun y hy => fu y (List.mem_cons_of_mem _ hy), fs, fit, ?_, ?_, ?_, hO, fld_calm hB hcm hfb, hw0, h.below hg hcm, hob, hobs, hfb⟩⟩
    · simpa using hlu
    · simpa [cntS] using hls
    · simpa using hln
    · simpa using hlb
    · simp only [goodL, Bool.and_eq_true] at good; exact good.2
    · rw [← hc', List.append_assoc]; simp [enc]
    · rw [List.length_append, be_length]; omega
theorem BytAt.bool (h : BytAt w W0 ob fb kind l T k acc us ss nn bs vu vs vn vb wr) (hc : l[k]? = some 98) :
    ∃ (x : Bool) (b o n cp : Nat), vb = .slice (some ⟨b, o, none⟩) (n + 1) cp ∧ n + 1 ≤ cp ∧ cp ≤ maxLen ∧ wr.cell? ⟨b, o, none⟩ = some (.bool x) ∧ ∀ A' w4 w5, (n ≠ 0 → A' = some ⟨b, o + 1, none⟩) → Rg.Blk w4 fb 86 (mC kind vu vs vn (.slice A' n (cp - 1))) → wr.grownBy w4 (some fb) →
      Bo.Calm ob ob w4 w5 → IsOut ob ob (acc ++ [if x then 1 else 0]) w5 → BytRel w W0 ob fb kind l T (k + 1) w5 := by
  have hd := drop_cons l k _ hc
  obtain ⟨hlu, hls, hln, hlb, hu, hs, hn, hb, fu, fs, fit, good, hc', hlen, ho, hf, hw0, hbl, hob, hobs, hfb⟩ := id h
  rw [hd] at hlu hls hln hlb good hc'
  cases bs with
  | nil => simp at hlb
  | cons x bs =>
    obtain ⟨b, o, cp, e, hcell, hlt, h4, h5, h6⟩ := SL.first (xs := bs.map Value.bool) hb
    rw [List.length_map] at *
    refine ⟨x, b, o, bs.length, cp, e, h4, h5, (h.later.cell (p := ⟨b, o, none⟩) hlt).trans hcell, fun A' w4 w5 hA hB hg hcm hO => ⟨acc ++ [if x then 1 else 0], us, ss, nn, bs, vu, vs, vn, _, ?_, ?_, ?_, ?_, hu, hs, hn, h6 A' hA, fu, fs, fit, ?_, ?_, ?_, hO, fld_calm hB hcm hfb, hw0, h.below hg hcm, hob, hobs, hfb⟩⟩
    · simpa using hlu
    · simpa [cntS] using hls
    · simpa using hln
    · simpa using hlb
    · simp only [goodL, Bool.and_eq_true] at good; exact good.2
    · rw [← hc', List.append_assoc]; simp [enc]
    · rw [List.length_append]; simp; omega
theorem BytAt.text (h : BytAt w W0 ob fb kind l T k acc us ss nn bs vu vs vn vb wr) {c : UInt8} (hc : l[k]? = some c) (h1 : c = 99 ∨ c = 115 ∨ c = 114) :
    ∃ (x : ByteArray) (b o n cp : Nat), vs = .slice (some ⟨b, o, none⟩) (n + 1) cp ∧ n + 1 ≤ cp ∧ cp ≤ maxLen ∧ wr.cell? ⟨b, o, none⟩ = some (.string x) ∧ x.size ≤ 1000000 ∧ ∀ A' w4 w5, (n ≠ 0 → A' = some ⟨b, o + 1, none⟩) → Rg.Blk w4 fb 86 (mC kind vu (.slice A' n (cp - 1)) vn vb) → wr.grownBy w4 (some fb) →
      Bo.Calm ob ob w4 w5 → IsOut ob ob (acc ++ (if c = 115 then textL x.data.toList else x.data.toList)) w5 → BytRel w W0 ob fb kind l T (k + 1) w5 := by
  have hd := drop_cons l k _ hc
  obtain ⟨hlu, hls, hln, hlb, hu, hs, hn, hb, fu, fs, fit, good, hc', hlen, ho, hf, hw0, hbl, hob, hobs, hfb⟩ := id h
  rw [hd] at hlu hls hln hlb good hc'
  cases ss with
  | nil => rcases h1 with rfl | rfl | rfl <;> simp [cntS] at hls <;> omega
  | cons x ss =>
    obtain ⟨b, o, cp, e, hcell, hlt, h4, h5, h6⟩ := SL.first (xs := ss.map Value.string) hs
    rw [List.length_map] at *
    have hx := fs x (List.mem_cons_self ..)
    refine ⟨x, b, o, ss.length, cp, e, h4, h5, (h.later.cell (p := ⟨b, o, none⟩) hlt).trans hcell, hx, fun A' w4 w5 hA hB hg hcm hO => ⟨acc ++ (if c = 115 then textL x.data.toList else x.data.toList), us, ss, nn, bs, vu, _, vn, vb, ?_, ?_, ?_, ?_, hu, h6 A' hA, hn, hb, fu, fun y hy => fs y (List.mem_cons_of_mem _ hy), fit, ?_, ?_, ?_, hO, fld_calm hB hcm hfb, hw0, h.below hg hcm, hob, hobs, hfb⟩⟩
    · rcases h1 with rfl | rfl | rfl <;> simpa [List.count_cons] using hlu
    · rcases h1 with rfl | rfl | rfl <;> simp [cntS] at hls ⊢ <;> omega
    · rcases h1 with rfl | rfl | rfl <;> simpa [List.count_cons] using hln
    · rcases h1 with rfl | rfl | rfl <;> simpa [List.count_cons] using hlb
    · simp only [goodL, Bool.and_eq_true] at good; exact good.2
    · rw [← hc', List.append_assoc]; rcases h1 with rfl | rfl | rfl <;> simp [enc, Mg.hd]
    · rw [List.length_append]; split
      · unfold textL; rw [List.length_append, be_length, len_list]; omega
      · rw [len_list]; omega
theorem BytAt.names (h : BytAt w W0 ob fb kind l T k acc us ss nn bs vu vs vn vb wr) (hc : l[k]? = some 110) :
    ∃ (x : List ByteArray) (b o n cp : Nat) (xa : Option Addr) (xn xc : Nat), vn = .slice (some ⟨b, o, none⟩) (n + 1) cp ∧ n + 1 ≤ cp ∧ cp ≤ maxLen ∧ wr.cell? ⟨b, o, none⟩ = some (.slice xa xn xc) ∧ x.length = xn ∧ xn ≤ xc ∧ Rd w xa (x.map Value.string) ∧ (x.length ≤ 100000 ∧ (joinC x).length ≤ 1000000) ∧
      ∀ A' w4 w5, (n ≠ 0 → A' = some ⟨b, o + 1, none⟩) → Rg.Blk w4 fb 86 (mC kind vu vs (.slice A' n (cp - 1)) vb) → wr.grownBy w4 (some fb) →
      Bo.Calm ob ob w4 w5 → IsOut ob ob (acc ++ textL (joinC x)) w5 → BytRel w W0 ob fb kind l T (k + 1) w5 := by
  have hd := drop_cons l k _ hc
  obtain ⟨hlu, hls, hln, hlb, hu, hs, hn, hb, fu, fs, fit, good, hc', hlen, ho, hf, hw0, hbl, hob, hobs, hfb⟩ := id h
  rw [hd] at hlu hls hln hlb good hc'
  cases nn with
  | nil => simp at hln
  | cons x nn =>
    obtain ⟨b, o, cp, u, e, hcell, hv, hlt, h4, h5, h6⟩ := SLN.first hn
    obtain ⟨xa, xn, xc, rfl, e2, hR, hxc, _⟩ := hv
    rw [List.length_map] at e2
    have hx := fit x (List.mem_cons_self ..)
    refine ⟨x, b, o, nn.length, cp, xa, xn, xc, e, h4, h5, (h.later.cell (p := ⟨b, o, none⟩) hlt).trans hcell, e2, hxc, hR, ⟨hx.1, hx.2.1⟩, fun A' w4 w5 hA hB hg hcm hO => ⟨acc ++ textL (joinC x), us, ss, nn, bs, vu, vs, _, vb, ?_, ?_, ?_, ?_, hu, hs, h6 A' hA, hb, fu, fs, fun y hy => fit y (List.mem_cons_of_mem _ hy), ?_, ?_, ?_, hO, fld_calm hB hcm hfb, hw0, h.below hg hcm, hob, hobs, hfb⟩⟩
    · simpa using hlu
    · simpa [cntS] using hls
    · simpa using hln
    · simpa using hlb
    · simp only [goodL, Bool.and_eq_true] at good; exact good.2
    · rw [← hc', List.append_assoc]; simp [enc]
    · rw [List.length_append]; unfold textL; rw [List.length_append, be_length]; have := hx.2.1; omega
end
theorem good_letter (l : List UInt8) (k : Nat) (c : UInt8) (h : goodL (l.drop k) = true) (hc : l[k]? = some c) : c = 117 ∨ c = 98 ∨ c = 115 ∨ c = 110 ∨ c = 99 ∨ c = 114 := by
  rw [drop_cons l k c hc] at h
  simp only [goodL, Bool.and_eq_true, Bool.or_eq_true, decide_eq_true_eq] at h
  rcases h.1.2 with ((((h | h) | h) | h) | h) | h <;> simp [h]
set_option maxRecDepth 20000 in
set_option maxHeartbeats 8000000 in
theorem Bytes_no (w : World) (a : Nat → Addr) (hE : ErrsM w a) (hT : TabR w) (m : Msg) (vu vs vn vb : Value) (hm : IsMsg w m vu vs vn vb) (hf : Fit m) (hc : checkC m ≠ 0) :
    Calls Tryz.prog 15 #[.agg (mC m.kind vu vs vn vb)] w fun e w' => e = .returned (.string (mkS (bytesL m))) ∧ Below w.heap.size w w' := by
  have HC := Lib.hid (show bytesL m = [] by unfold bytesL; rw [if_pos hc])
  have HB0 := Lib.hid (show Rg.Blk (w.alloc (.cells (mC m.kind vu vs vn vb) 47)) w.heap.size 47 (mC m.kind vu vs vn vb) from Rg.Blk.new w _ _)
  have HA0 := Lib.hid (show Below w.heap.size w (w.alloc (.cells (mC m.kind vu vs vn vb) 47)) from (Below.refl _ _).alloc (Nat.le_refl _) _)
  have HCK := Lib.hid (show ∀ W, Below w.heap.size w W → _ from fun W hW => Check_any W a (hE.below hW) (hT.below hW) m vu vs vn vb (hm.below hW) hf)
  generalize checkC m = c at *
  unfold Ei.evA at HCK
  rw [if_neg hc] at HCK
  clear hE hT hm hf hc
  unfold mC at *
  go_enter Tryz.func15, Tryz.ntmps15
  go_wp2_with (first
    | (refine wpList_load_row rfl 47 _ rfl _ rfl _ _ _ _ HB0.out Tryz.underlying47 rfl (by kernel_rfl) ?_; skip)
    | (go_at_call 36; refine (HCK.out _ HA0.out).mono ?_; rintro e w1 ⟨rfl, hb1⟩; skip; have HB1 := Lib.hid (HA0.out.trans (hb1.mono HA0.out.size)); clear hb1))
  go_ret
  exact ⟨by rw [HC.out]; rfl, HB1.out⟩
set_option maxRecDepth 20000 in
set_option maxHeartbeats 8000000 in
theorem Bytes_ok (w : World) (a : Nat → Addr) (hE : ErrsM w a) (hT : TabR w) (m : Msg) (vu vs vn vb : Value) (hm : IsMsg w m vu vs vn vb) (hf : Fit m) (hc : checkC m = 0) :
    Calls Tryz.prog 15 #[.agg (mC m.kind vu vs vn vb)] w fun e w' => e = .returned (.string (mkS (bytesL m))) ∧ Below w.heap.size w w' := by
  have HCK := Lib.hid (show ∀ W, Below w.heap.size w W → _ from fun W hW => Check_any W a (hE.below hW) (hT.below hW) m vu vs vn vb (hm.below hW) hf)
  rw [hc, Ei.evA_zero] at HCK
  obtain ⟨kind, us, ss, ns, bs⟩ := m
  simp only at *
  have HM := Lib.hid hm
  have HF := Lib.hid hf
  obtain ⟨l, hl⟩ : ∃ l, ltr kind = l := ⟨_, rfl⟩
  obtain ⟨ls, hls⟩ : ∃ ls, mkS l = ls := ⟨_, rfl⟩
  obtain ⟨his, hct⟩ : isK kind = true ∧ counted l ⟨kind, us, ss, ns, bs⟩ = true := by
    unfold checkC at hc
    rw [← hl]
    simp only at hc
    cases h1 : isK kind
    · rw [h1] at hc; simp at hc
    · cases h2 : counted (ltr kind) ⟨kind, us, ss, ns, bs⟩
      · rw [h1, h2] at hc; simp at hc
      · exact ⟨rfl, rfl⟩
  obtain ⟨hk0, hk1⟩ := isK_range his
  have HCT := Lib.hid hct
  have HLS := Lib.hid hls
  have HLL := Lib.hid (show l.length ≤ 100 by rw [← hl]; exact ltr_len kind)
  have HLZ := Lib.hid (show ls.size = l.length by rw [← hls]; exact mkS_size l)
  have HLG := Lib.hid (show ls.data.toList = l by rw [← hls]; exact mkS_list l)
  have HGD := Lib.hid (show goodL l = true by rw [← hl]; exact ltr_good kind)
  have HFI := Lib.hid (show ∀ W, Below w.heap.size w W → Calls Tryz.prog 28 #[.int .i64 kind] W fun e w' => e = .returned (.tuple #[.string ls, .bool true]) ∧ Below W.heap.size W w' from fun W hW => by
    have := Fields_any W kind (hT.below hW)
    rw [hl, his, hls] at this; exact this)
  obtain ⟨T, hTT⟩ : ∃ T, UInt8.ofNat kind.toNat :: enc l us ss ns bs = T := ⟨_, rfl⟩
  have HT := Lib.hid (show bytesL ⟨kind, us, ss, ns, bs⟩ = T by unfold bytesL; rw [if_neg (by rw [hc]; decide)]; simp only; rw [hl]; exact hTT)
  have HTT := Lib.hid hTT
  obtain ⟨kn, rfl⟩ : ∃ kn : Nat, kind = kn := ⟨kind.toNat, by omega⟩
  have hkn : kn < 256 := by omega
  have HKB := Lib.hid (show ((kn : Int)) = (UInt8.ofNat kn).toNat by simp; omega)
  have HA0 := Lib.hid (show Below w.heap.size w (w.alloc (.cells (mC kn vu vs vn vb) 47)) from (Below.refl _ _).alloc (Nat.le_refl _) _)
  have HB0 := Lib.hid (show Rg.Blk (w.alloc (.cells (mC kn vu vs vn vb) 47)) w.heap.size 47 (mC kn vu vs vn vb) from Rg.Blk.new w _ _)
  obtain ⟨q, hq⟩ : ∃ q, l.length = q := ⟨_, rfl⟩
  have hq1 : q ≤ 100 := by rw [← hq]; exact HLL.out
  have HLQ := Lib.hid (HLZ.out.trans hq)
  have HQ := Lib.hid hq
  clear hq hE hT hm hf hc hl hls his hct hk0 hk1 hTT
  unfold mC at HCK HA0 HB0 ⊢
  have tok := True.intro
  go_enter Tryz.func15, Tryz.ntmps15
  go_wp2_with (first
    | (have _t := tok; refine wpList_load_row rfl 47 _ rfl _ rfl _ _ _ _ HB0.out Tryz.underlying47 rfl (by kernel_rfl) ?_; clear _t tok)
    | (go_at_call 36; refine (HCK.out _ HA0.out).mono ?_; rintro e w1 ⟨rfl, hb1⟩; skip
       have HB1 := Lib.hid (HA0.out.trans (hb1.mono HA0.out.size)); have hm1 := HB0.out.below hb1 HB0.out.lt; have HM1 := Lib.hid hm1; have c0 := hm1.cell 0 (v := .int .i64 kn) rfl; clear hb1 hm1)
    | (go_at_call 28; refine (HFI.out _ HB1.out).mono ?_; rintro e w2 ⟨rfl, hb2⟩; skip
       have HB2 := Lib.hid (HB1.out.trans (hb2.mono HB1.out.size))
       have hO2 := outFresh w2
       have hB2 : Below w2.heap.size w2 (w2.alloc (.cells #[.pointer none, .slice none 0 0] 81)) := (Below.refl _ _).alloc (Nat.le_refl _) _
       have hm2 := HM1.out.below hb2 HM1.out.lt
       have HM2 := Lib.hid (hm2.below hB2 hm2.lt)
       have d0 := (hm2.below hB2 hm2.lt).cell 0 (v := .int .i64 kn) rfl
       have HML := Lib.hid hm2.lt
       have HO2 := Lib.hid hO2
       have HB3 := Lib.hid hB2
       clear hb2 hO2 hB2 hm2 c0)
    | (go_at_call 37; refine (Byte_any w2.heap.size w2.heap.size [] (UInt8.ofNat kn) _ (by first | exact HKB.out | (have := HKB.out; simp [go_sem]; omega)) _ HO2.out (by decide) HB3.out.size).mono ?_; rintro e w3 ⟨rfl, h3, hb3⟩; skip
       have HO3 := Lib.hid h3; have HB4 := Lib.hid (HB3.out.trans hb3.below)
       have HM3 := Lib.hid (HM2.out.below hb3.below HML.out)
       have HOL := Lib.hid h3.lt
       have tok2 := True.intro
       clear h3 hb3)
    | (have _t := tok2; refine wpList_load_row rfl 47 _ rfl _ rfl _ _ _ _ HM3.out Tryz.underlying47 rfl (by kernel_rfl) ?_; clear _t tok2))
  have hX : Rg.Blk (w3.alloc (.cells #[.int .i64 kn, vu, vs, vn, vb] 86)) w3.heap.size 86 #[.int .i64 kn, vu, vs, vn, vb] := Rg.Blk.new w3 _ _
  have hXB : Below w3.heap.size w3 (w3.alloc (.cells #[.int .i64 kn, vu, vs, vn, vb] 86)) := (Below.refl _ _).alloc (Nat.le_refl _) _
  generalize w3.alloc (.cells #[.int .i64 kn, vu, vs, vn, vb] 86) = X at *
  have HX := Lib.hid hX
  have HXB := Lib.hid hXB
  clear hX hXB d0
  go_loopw [26] (fun i wr => ∃ k : Nat, k ≤ q ∧ i = .int .i64 k ∧ BytRel w w2 w2.heap.size w3.heap.size kn l T k wr) (fun i _ => 200 - (intOf i).toNat)
  case atStart =>
    have hct := HCT.out
    unfold counted at hct
    simp only [Bool.and_eq_true, decide_eq_true_eq] at hct
    exact ⟨0, Nat.zero_le _, rfl, [UInt8.ofNat kn], us, ss, ns, bs, vu, vs, vn, vb, hct.1.1.1, hct.1.1.2, hct.1.2, hct.2, HM.out.u, HM.out.s, HM.out.n, HM.out.b, HF.out.u, HF.out.s, HF.out.n, HGD.out, HTT.out, by simp, HO3.out.below HXB.out, HX.out, HB2.out, HB4.out.trans (HXB.out.mono HB4.out.size), HB2.out.size, Nat.le_refl _, HOL.out⟩
  case round =>
    obtain ⟨k, hk, rfl, acc, us1, ss1, nn1, bs1, vu1, vs1, vn1, vb1, hat⟩ := hrel
    have HAT := Lib.hid hat
    clear hat
    by_cases hkq : k < q
    · have hlz2 := HLQ.out
      have hks : k < ls.size := by omega
      have hik : (k : Int) < ls.size := by omega
      have hd0 : decide (k < ls.size) = true := by simp; exact hks
      have hx : l[k]? = some ls[k] := by rw [← HLG.out]; exact get_list ls k hks
      clear hlz2
      generalize hxx : ls[k] = x at *
      have HX1 := Lib.hid hx
      have HLE := Lib.hid (show acc.length ≤ 200000000 by have := HAT.out.len; omega)
      have hlet := good_letter l k x HAT.out.good hx
      clear hx
      rcases hlet with rfl | rfl | rfl | rfl | rfl | rfl
      · have e117 : (((117 : UInt8).toNat : Int) == 117) = true := rfl
        obtain ⟨x, b, o, n, cp, rfl, h4, h5, hcell, hfx, hnext⟩ := HAT.out.num HX1.out
        have HCALL := Lib.hid (u_any wr w3.heap.size kn b o n cp x _ _ _ HAT.out.f hcell h4 h5)
        have HNX := Lib.hid hnext
        clear hnext h4 h5 hcell
        go_wp2_with (first | (go_at_call 39; refine HCALL.out.mono ?_; rintro e w4 ⟨rfl, ⟨A', h4, h4a⟩, h4g⟩; skip; have HO4 := Lib.hid (HAT.out.outK h4g); have HS4 := Lib.hid (HAT.out.size h4g); have HBW4 := Lib.hid (Below.grow2 HAT.out.later h4g (Nat.le_trans HAT.out.hob (Nat.le_of_lt HAT.out.hfb))); have HN4 := Lib.hid (fun wz hcm ho => HNX.out A' w4 wz h4a h4 h4g hcm ho); clear h4 h4a h4g) | (go_at_call 38; refine (U32_any w2.heap.size w2.heap.size acc x hfx w4 HO4.out (by have := HLE.out; omega) HS4.out).mono ?_; rintro e w5 ⟨rfl, h5, hc5⟩; skip; have HN := Lib.hid (HN4.out w5 hc5 h5); clear h5 hc5))
        go_roundw
        case rel =>
          first
            | exact ⟨k + 1, by omega, by go_num, HN.out⟩
            | ((repeat apply Exists.intro); refine ⟨?_, rfl⟩; exact ⟨k + 1, by omega, by go_num, HN.out⟩)
        case measure => simp [intOf]; omega
      · have e117 : (((98 : UInt8).toNat : Int) == 117) = false := rfl
        have e98 : (((98 : UInt8).toNat : Int) == 98) = true := rfl
        obtain ⟨x, b, o, n, cp, rfl, h4, h5, hcell, hnext⟩ := HAT.out.bool HX1.out
        have HCALL := Lib.hid (b_any wr w3.heap.size kn b o n cp x _ _ _ HAT.out.f hcell h4 h5)
        have HNX := Lib.hid hnext
        clear hnext h4 h5 hcell
        go_wp2_with (first | (go_at_call 41; refine HCALL.out.mono ?_; rintro e w4 ⟨rfl, ⟨A', h4, h4a⟩, h4g⟩; skip; have HO4 := Lib.hid (HAT.out.outK h4g); have HS4 := Lib.hid (HAT.out.size h4g); have HBW4 := Lib.hid (Below.grow2 HAT.out.later h4g (Nat.le_trans HAT.out.hob (Nat.le_of_lt HAT.out.hfb))); have HN4 := Lib.hid (fun wz hcm ho => HNX.out A' w4 wz h4a h4 h4g hcm ho); clear h4 h4a h4g) | (go_at_call 40; refine (Bool_any w2.heap.size w2.heap.size acc x w4 HO4.out (by have := HLE.out; omega) HS4.out).mono ?_; rintro e w5 ⟨rfl, h5, hc5⟩; skip; have HN := Lib.hid (HN4.out w5 hc5 h5); clear h5 hc5))
        go_roundw
        case rel =>
          first
            | exact ⟨k + 1, by omega, by go_num, HN.out⟩
            | ((repeat apply Exists.intro); refine ⟨?_, rfl⟩; exact ⟨k + 1, by omega, by go_num, HN.out⟩)
        case measure => simp [intOf]; omega
      · have e117 : (((115 : UInt8).toNat : Int) == 117) = false := rfl
        have e98 : (((115 : UInt8).toNat : Int) == 98) = false := rfl
        have e115 : (((115 : UInt8).toNat : Int) == 115) = true := rfl
        obtain ⟨y, b, o, n, cp, rfl, h4, h5, hcell, hfx, hnext⟩ := HAT.out.text HX1.out (by decide)
        have HCALL := Lib.hid (s_any wr w3.heap.size kn b o n cp y _ _ _ HAT.out.f hcell h4 h5)
        simp only [if_pos (show (115 : UInt8) = 115 from rfl)] at hnext
        have HNX := Lib.hid hnext
        clear hnext h4 h5 hcell
        go_wp2_with (first | (go_at_call 43; refine HCALL.out.mono ?_; rintro e w4 ⟨rfl, ⟨A', h4, h4a⟩, h4g⟩; skip; have HO4 := Lib.hid (HAT.out.outK h4g); have HS4 := Lib.hid (HAT.out.size h4g); have HBW4 := Lib.hid (Below.grow2 HAT.out.later h4g (Nat.le_trans HAT.out.hob (Nat.le_of_lt HAT.out.hfb))); have HN4 := Lib.hid (fun wz hcm ho => HNX.out A' w4 wz h4a h4 h4g hcm ho); clear h4 h4a h4g) | (go_at_call 42; refine (Text_any w2.heap.size w2.heap.size acc y (by omega) w4 HO4.out (by have := HLE.out; omega) HS4.out).mono ?_; rintro e w5 ⟨rfl, h5, hc5⟩; skip; have HN := Lib.hid (HN4.out w5 hc5 h5); clear h5 hc5))
        go_roundw
        case rel =>
          first
            | exact ⟨k + 1, by omega, by go_num, HN.out⟩
            | ((repeat apply Exists.intro); refine ⟨?_, rfl⟩; exact ⟨k + 1, by omega, by go_num, HN.out⟩)
        case measure => simp [intOf]; omega
      · have e117 : (((110 : UInt8).toNat : Int) == 117) = false := rfl
        have e98 : (((110 : UInt8).toNat : Int) == 98) = false := rfl
        have e115 : (((110 : UInt8).toNat : Int) == 115) = false := rfl
        have e110 : (((110 : UInt8).toNat : Int) == 110) = true := rfl
        obtain ⟨y, b, o, n, cp, xa, xn, xc, rfl, h4, h5, hcell, hyn, hyc, hRy, ⟨hy1, hy2⟩, hnext⟩ := HAT.out.names HX1.out
        have HCALL := Lib.hid (n_any wr w3.heap.size kn b o n cp xa xn xc _ _ _ HAT.out.f hcell h4 h5)
        have HRY := Lib.hid hRy
        have HYN := Lib.hid hyn
        have HNX := Lib.hid hnext
        clear hnext h4 h5 hcell hRy hyn
        go_wp2_with (first | (go_at_call 45; refine HCALL.out.mono ?_; rintro e w4 ⟨rfl, ⟨A', h4, h4a⟩, h4g⟩; skip; have HO4 := Lib.hid (HAT.out.outK h4g); have HS4 := Lib.hid (HAT.out.size h4g); have HBW4 := Lib.hid (Below.grow2 HAT.out.later h4g (Nat.le_trans HAT.out.hob (Nat.le_of_lt HAT.out.hfb))); have HN4 := Lib.hid (fun wz hcm ho => HNX.out A' w4 wz h4a h4 h4g hcm ho); clear h4 h4a h4g) | (go_at_call 44; refine (Names_any w2.heap.size w2.heap.size acc xa xn xc y HYN.out hyc (by have := HYN.out; omega) w4 (HRY.out.below HBW4.out) (by omega) HO4.out (by have := HLE.out; omega) HS4.out).mono ?_; rintro e w5 ⟨rfl, h5, hc5⟩; skip; have HN := Lib.hid (HN4.out w5 hc5 h5); clear h5 hc5))
        go_roundw
        case rel =>
          first
            | exact ⟨k + 1, by omega, by go_num, HN.out⟩
            | ((repeat apply Exists.intro); refine ⟨?_, rfl⟩; exact ⟨k + 1, by omega, by go_num, HN.out⟩)
        case measure => simp [intOf]; omega
      · have e117 : (((99 : UInt8).toNat : Int) == 117) = false := rfl
        have e98 : (((99 : UInt8).toNat : Int) == 98) = false := rfl
        have e115 : (((99 : UInt8).toNat : Int) == 115) = false := rfl
        have e110 : (((99 : UInt8).toNat : Int) == 110) = false := rfl
        have e99 : (((99 : UInt8).toNat : Int) == 99) = true := rfl
        obtain ⟨y, b, o, n, cp, rfl, h4, h5, hcell, hfx, hnext⟩ := HAT.out.text HX1.out (by decide)
        have HCALL := Lib.hid (s_any wr w3.heap.size kn b o n cp y _ _ _ HAT.out.f hcell h4 h5)
        simp only [if_neg (show ¬ (99 : UInt8) = 115 by decide)] at hnext
        have HNX := Lib.hid hnext
        clear hnext h4 h5 hcell
        go_wp2_with (first | (go_at_call 43; refine HCALL.out.mono ?_; rintro e w4 ⟨rfl, ⟨A', h4, h4a⟩, h4g⟩; skip; have HO4 := Lib.hid (HAT.out.outK h4g); have HS4 := Lib.hid (HAT.out.size h4g); have HBW4 := Lib.hid (Below.grow2 HAT.out.later h4g (Nat.le_trans HAT.out.hob (Nat.le_of_lt HAT.out.hfb))); have HN4 := Lib.hid (fun wz hcm ho => HNX.out A' w4 wz h4a h4 h4g hcm ho); clear h4 h4a h4g) | (go_at_call 46; refine (Raw_any w2.heap.size w2.heap.size acc y w4 HO4.out (by have := HLE.out; omega) HS4.out).mono ?_; rintro e w5 ⟨rfl, h5, hc5⟩; skip; have HN := Lib.hid (HN4.out w5 hc5 h5); clear h5 hc5))
        go_roundw
        case rel =>
          first
            | exact ⟨k + 1, by omega, by go_num, HN.out⟩
            | ((repeat apply Exists.intro); refine ⟨?_, rfl⟩; exact ⟨k + 1, by omega, by go_num, HN.out⟩)
        case measure => simp [intOf]; omega
      · have e117 : (((114 : UInt8).toNat : Int) == 117) = false := rfl
        have e98 : (((114 : UInt8).toNat : Int) == 98) = false := rfl
        have e115 : (((114 : UInt8).toNat : Int) == 115) = false := rfl
        have e110 : (((114 : UInt8).toNat : Int) == 110) = false := rfl
        have e99 : (((114 : UInt8).toNat : Int) == 99) = false := rfl
        have e114 : (((114 : UInt8).toNat : Int) == 114) = true := rfl
        obtain ⟨y, b, o, n, cp, rfl, h4, h5, hcell, hfx, hnext⟩ := HAT.out.text HX1.out (by decide)
        have HCALL := Lib.hid (s_any wr w3.heap.size kn b o n cp y _ _ _ HAT.out.f hcell h4 h5)
        simp only [if_neg (show ¬ (114 : UInt8) = 115 by decide)] at hnext
        have HNX := Lib.hid hnext
        clear hnext h4 h5 hcell
        go_wp2_with (first | (go_at_call 43; refine HCALL.out.mono ?_; rintro e w4 ⟨rfl, ⟨A', h4, h4a⟩, h4g⟩; skip; have HO4 := Lib.hid (HAT.out.outK h4g); have HS4 := Lib.hid (HAT.out.size h4g); have HBW4 := Lib.hid (Below.grow2 HAT.out.later h4g (Nat.le_trans HAT.out.hob (Nat.le_of_lt HAT.out.hfb))); have HN4 := Lib.hid (fun wz hcm ho => HNX.out A' w4 wz h4a h4 h4g hcm ho); clear h4 h4a h4g) | (go_at_call 46; refine (Raw_any w2.heap.size w2.heap.size acc y w4 HO4.out (by have := HLE.out; omega) HS4.out).mono ?_; rintro e w5 ⟨rfl, h5, hc5⟩; skip; have HN := Lib.hid (HN4.out w5 hc5 h5); clear h5 hc5))
        go_roundw
        case rel =>
          first
            | exact ⟨k + 1, by omega, by go_num, HN.out⟩
            | ((repeat apply Exists.intro); refine ⟨?_, rfl⟩; exact ⟨k + 1, by omega, by go_num, HN.out⟩)
        case measure => simp [intOf]; omega
    · obtain rfl : k = q := by omega
      have HLQ2 := Lib.hid HLQ.out
      have hd0 : decide (k < ls.size) = false := by have := HLQ2.out; simp; omega
      have hnk : ¬ k < ls.size := by have := HLQ2.out; omega
      have HAC := Lib.hid (show acc = T by have := HAT.out.c; rw [List.drop_of_length_le (by rw [HQ.out]; exact Nat.le_refl _)] at this; simpa [enc] using this)
      have HBY := Lib.hid (Bytes_any w2.heap.size w2.heap.size acc wr (Bo.Read.of HAT.out.o) (Nat.le_trans HAT.out.hobs HAT.out.bl.size))
      go_wp2_with (go_at_call 47; refine HBY.out.mono ?_; rintro e w7 ⟨rfl, _, hb7, _⟩; skip; have HB7 := Lib.hid hb7; clear hb7)
      go_ret
      exact ⟨by rw [HT.out, HAC.out]; rfl, HAT.out.later.trans (HB7.out.mono HB2.out.size)⟩
theorem MsgBytes_any (w : World) (a : Nat → Addr) (hE : ErrsM w a) (hT : TabR w) (m : Msg) (vu vs vn vb : Value) (hm : IsMsg w m vu vs vn vb) (hf : Fit m) :
    Calls Tryz.prog 15 #[.agg (mC m.kind vu vs vn vb)] w fun e w' => e = .returned (.string (mkS (bytesL m))) ∧ Below w.heap.size w w' := by
  by_cases hc : checkC m = 0
  · exact Bytes_ok w a hE hT m vu vs vn vb hm hf hc
  · exact Bytes_no w a hE hT m vu vs vn vb hm hf hc
end Go.Proofs.YtjfikbnfabdkoaaGreatDoor.Mg
