/- The law TermMakes. -/
import Derived.Test.YtfcemnebhapidaaDoorTmMw
set_option linter.unusedVariables false
set_option linter.unusedSimpArgs false
namespace Go.Proofs.YtfcemnebhapidaaDoor.Te
open Go.RowKit Go.Proofs.YtfcemnebhapidaaDoor.Ow Go.Proofs.YtfcemnebhapidaaDoor.Mp Go.Maps
theorem off_alloc {W V : World} {o : Obj} {g h : Option Nat} (hV : Off (W.alloc o) V g h) : Off W V g h :=
  ⟨by have := hV.1; simp at this; omega, fun k hk h1 h2 => (hV.2 k (by simp; omega) h1 h2).trans (Below.heap_alloc W o k hk)⟩
theorem ev_off {w1 W W' : World} {v5 v6 : Value} {l : List El} {ws : List (List UInt8)} (h : PW w1 W v5 v6 l ws) (hb : Below W.heap.size W W') {E : El} (hev : ∀ V, W'.heap.size ≤ V.heap.size → (∀ k, W.heap.size ≤ k → k < W'.heap.size → V.heap[k]? = W'.heap[k]?) → EV V E) : ∀ V, Off W' V v5.ownBlock v6.ownBlock → EV V E := fun V hV =>
  hev V hV.1 fun k h1 h2 => hV.2 k h2 (fun e => by have := (own_ltR h.p k e.symm).2; omega) (fun e => by have := (h.q.lt k e.symm).2; omega)
def cut100 (s : ByteArray) : List UInt8 := (s.extract 0 100).data.toList
theorem cut100_len (s : ByteArray) : (cut100 s).length ≤ 100 := by unfold cut100; rw [Array.length_toList]; show (s.extract 0 100).size ≤ 100; rw [ByteArray.size_extract]; omega
set_option maxRecDepth 20000 in
set_option maxHeartbeats 8000000 in
theorem law_TermMakes (w : World) (S : ByteArray) (A : Option Addr) (c : Nat) (xs : List ByteArray) (hR : Rd w A (xs.map Value.string)) (hc : xs.length ≤ c) (hm : c ≤ maxLen) (a : Nat → Addr) (hE : Ei.ErrsAll w a) : Calls Tryd.prog 8 #[.string S, .slice A xs.length c] w fun e w' => e = .returned (.bool true) ∧ Below w.heap.size w w' := by
  have HAW := Lib.hid (awake31 w a (.of hE))
  have HE := Lib.hid hE
  have HR := Lib.hid hR
  obtain ⟨x, hx⟩ : ∃ x, (S.extract 0 9).data.toList = x := ⟨_, rfl⟩
  have HXL := Lib.hid (show x.length ≤ 9 by rw [← hx, Array.length_toList]; show (S.extract 0 9).size ≤ 9; rw [ByteArray.size_extract]; omega)
  have HC9 := Lib.hid (show ∀ W : World, Calls Tryd.prog 14 #[.string S, .int .i64 9] W fun e w' => e = .returned (.string (strB x)) ∧ W = w' from fun W => hx ▸ Cut31 W S 9 (by decide))
  have HCO := Lib.hid (fun W (hW : Below w.heap.size w W) => show Calls Tryd.prog 22 #[.iface 137 (.pointer (some (a 3)))] W fun e w' => e = .returned (.int .i64 3) ∧ W = w' from Ei.Code_any W a (hE.below hW) 3 (by decide))
  obtain ⟨n, hn⟩ : ∃ n, xs.length = n := ⟨_, rfl⟩
  rw [hn]
  have HN := Lib.hid hn
  have hnm : n ≤ 9223372036854775807 := by rw [← hn]; simp only [maxLen] at hm; omega
  obtain ⟨m, hmm⟩ : ∃ m, min n 4 = m := ⟨_, rfl⟩
  have HM := Lib.hid hmm
  have hm4 : m ≤ 4 := by omega
  have HNM := Lib.hid hnm
  clear hE hR hc hm hn hx hmm hnm
  go_enter Tryd.func8, Tryd.ntmps8
  go_wp2_with (first
    | (go_at_call 9; refine HAW.out.mono ?_; rintro e w1 ⟨rfl, hb1⟩; skip; have HB := Lib.hid hb1; clear hb1)
    | (go_at_call 14; refine (HC9.out _).mono ?_; rintro e w2 ⟨rfl, rfl⟩; skip))
  go_loopw [5, 6, 7, 8] (fun v5 v6 nb i wr => ∃ (k : Nat) (l : List El) (ws : List (List UInt8)), k ≤ m ∧ l.length = k ∧ i = .int .i64 k ∧ nb = .bool (nf l) ∧ Wds l ws ∧ PW w1 wr v5 v6 l ws) (fun _ _ _ i _ => 5 - (intOf i).toNat)
  case atStart => exact ⟨0, [], [], Nat.zero_le _, rfl, rfl, rfl, ⟨rfl, fun j e t h => by simp at h⟩, PW.start w1⟩
  case round =>
    obtain ⟨k, l, ws, hk, hl, rfl, rfl, hwd, hpw⟩ := hrel
    have HPW := Lib.hid hpw
    have HWD := Lib.hid hwd
    have HLK := Lib.hid (show l.length = k ∧ k ≤ 4 from ⟨hl, by omega⟩)
    have HWL := Lib.hid (show ws.length = k from by rw [hwd.1, hl])
    clear hpw hwd hl
    by_cases hgo : k < n ∧ k < 4
    · have d1 : decide (k < n) = true := by simp; exact hgo.1
      have d1i : decide ((k : Int) < n) = true := by simp; exact hgo.1
      have d2 : decide (k < 4) = true := by simp; exact hgo.2
      have d2i : decide ((k : Int) < 4) = true := by simp; omega
      have hki : (k : Int) < n := by omega
      have hk0 : (0 : Int) ≤ k := by omega
      have HGO := Lib.hid (show k + 1 ≤ m by have := HM.out; omega)
      obtain ⟨s, hs⟩ : ∃ s, xs[k]? = some s := ⟨_, List.getElem?_eq_getElem (by rw [HN.out]; exact hgo.1)⟩
      obtain ⟨b0, o0, rfl, hb0, hc0⟩ := HR.out k (.string s) (by rw [List.getElem?_map, hs]; rfl)
      have hc1 : wr.cell? ⟨b0, o0 + k, none⟩ = some (.string s) := ((HB.out.trans (HPW.out.bel.mono HB.out.size)).cell (p := ⟨b0, o0 + k, none⟩) hb0).trans hc0
      have HCT := Lib.hid (show ∀ W : World, Calls Tryd.prog 14 #[.string s, .int .i64 100] W fun e w' => e = .returned (.string (strB (cut100 s))) ∧ W = w' from fun W => Cut31 W s 100 (by decide))
      clear hgo hs hc0
      cases hp : parse (cut100 s) with
      | none =>
        have HOF := Lib.hid (fun W (hW : Below w.heap.size w W) => hp ▸ OfE W (cut100 s) (cut100_len s) a (.of (HE.out.below hW)))
        have HCA := Lib.hid (show ∀ W, Calls Tryd.prog 17 #[.string (strB (cut100 s))] W fun e w' => (∃ y : List UInt8, y.length ≤ 100000 ∧ e = .returned (.tuple #[.string (strB y), .bool false])) ∧ Below W.heap.size W w' from fun W => (RCanon_any _ W (cut100 s) (Nat.lt_succ_self _) (by have := cut100_len s; omega)).mono (by rintro e w' ⟨h, hb⟩; rw [hp] at h; exact ⟨h, hb⟩))
        clear hp
        have hnf : ∀ bb : Bool, (bb || true) = true := by intro bb; cases bb <;> rfl
        cases hnb : nf l
        all_goals
          have HNB := Lib.hid hnb
          go_wp2_with (first
            | (go_at_call 14; refine (HCT.out _).mono ?_; rintro e w3 ⟨rfl, rfl⟩; skip)
            | (go_at_call 13; refine (HOF.out _ (HB.out.trans (HPW.out.bel.mono HB.out.size))).mono ?_; rintro e w4 ⟨E, hEo, rfl, hev, hb⟩; skip; have HEo := Lib.hid hEo; have HEV := Lib.hid (show ∀ V, Off w4 V u5.ownBlock u6.ownBlock → EV V E from ev_off HPW.out hb hev); have HPWy := Lib.hid (HPW.out.below hb); clear HPW; have HPW := HPWy; clear HPWy; clear hEo hev hb; have HPP := Lib.hid (HPW.out.p.alloc (.cells #[.string E.k, .string E.x, .slice E.A E.n E.c] 31)); have HPA := Lib.hid (HPW.out.below ((Below.refl _ _).alloc (Nat.le_refl _) (.cells #[.string E.k, .string E.x, .slice E.A E.n E.c] 31))); have HRE := Lib.hid (show Rd (w4.alloc (.cells #[.string E.k, .string E.x, .slice E.A E.n E.c] 31)) (some ⟨w4.heap.size, 0, none⟩) (ecl E) from fun j v hv => ⟨w4.heap.size, 0, rfl, by simp, by rw [Nat.zero_add]; exact (Rg.Blk.new w4 _ _).cell j (by simpa [ecl] using hv)⟩))
            | (refine appN rfl _ _ 29 rfl Tryd.underlying29 infoT rfl (by decide) (by decide) HPP.out rfl rfl (show (ecl E).length = 1 * 3 from rfl) HRE.out (by intro u hu; simp [ecl] at hu; rcases hu with rfl | rfl | rfl <;> rfl) (by have := HLK.out; omega) HPA.out.bel.size ?_; intro v5' w5p h2 h3 h4; have HPW2 := Lib.hid (HPA.out.addP (fun V hV => HEV.out V (off_alloc hV)) h2 h3 h4); clear HPW HPP HPA HRE h2 h3 h4; have HPW := HPW2; clear HPW2)
            | (go_at_call 17; refine (HCA.out _).mono ?_; rintro e w5 ⟨⟨y, _, rfl⟩, hb⟩; skip; have HPWy := Lib.hid (HPW.out.below hb); clear HPW; have HPW := HPWy; clear HPWy; clear hb)
            | (refine app1 rfl _ _ 22 rfl (E := 9) (z := .string ⟨#[]⟩) (by' := 16) rfl rfl rfl (by decide) HPW.out.q rfl rfl rfl (by rw [List.length_map, HWL.out]; have := HLK.out; omega) HPW.out.bel.size ?_; intro v6' w6p h2 h3 h4; rw [snocS] at h2; have HPW3 := Lib.hid (HPW.out.addW h2 h3 (by rcases h4 with h4 | h4; exact .inl h4; exact .inr ⟨_, h4, Nat.le_succ _⟩)); clear h2 h3 h4))
          go_roundw
          case rel =>
            have REL := Lib.hid (show ∃ (k' : Nat) (l' : List El) (ws' : List (List UInt8)), k' ≤ m ∧ l'.length = k' ∧ Value.int .i64 ((k : Int) + 1) = .int .i64 k' ∧ Value.bool (true) = .bool (nf l') ∧ Wds l' ws' ∧ PW w1 w6p v5' v6' l' ws' from ⟨k + 1, l ++ [E], ws ++ [y], HGO.out, by rw [List.length_append, HLK.out.1]; rfl, rfl, by rw [nf_snoc, HEo.out, HNB.out] <;> rfl, HWD.out.snoc (fun u hu => by rw [HEo.out] at hu; cases hu), HPW3.out⟩)
            first
              | exact REL.out
              | ((repeat apply Exists.intro); refine ⟨?_, rfl⟩; exact REL.out)
          case measure => (first | (simp [intOf]; done) | (simp [intOf]; omega))
      | some t =>
        have HOF := Lib.hid (fun W (hW : Below w.heap.size w W) => hp ▸ OfE W (cut100 s) (cut100_len s) a (.of (HE.out.below hW)))
        have HCA := Lib.hid (show ∀ W, Calls Tryd.prog 17 #[.string (strB (cut100 s))] W fun e w' => e = .returned (.tuple #[.string (strB t.txt), .bool true]) ∧ Below W.heap.size W w' from fun W => (RCanon_any _ W (cut100 s) (Nat.lt_succ_self _) (by have := cut100_len s; omega)).mono (by rintro e w' ⟨h, hb⟩; rw [hp] at h; exact ⟨h, hb⟩))
        clear hp
        cases hnb : nf l
        all_goals
          have HNB := Lib.hid hnb
          go_wp2_with (first
            | (go_at_call 14; refine (HCT.out _).mono ?_; rintro e w3 ⟨rfl, rfl⟩; skip)
            | (go_at_call 13; refine (HOF.out _ (HB.out.trans (HPW.out.bel.mono HB.out.size))).mono ?_; rintro e w4 ⟨E, hEo, rfl, hev, hb⟩; skip; have HEo := Lib.hid hEo; have HEV := Lib.hid (show ∀ V, Off w4 V u5.ownBlock u6.ownBlock → EV V E from ev_off HPW.out hb hev); have HPWy := Lib.hid (HPW.out.below hb); clear HPW; have HPW := HPWy; clear HPWy; clear hEo hev hb; have HPP := Lib.hid (HPW.out.p.alloc (.cells #[.string E.k, .string E.x, .slice E.A E.n E.c] 31)); have HPA := Lib.hid (HPW.out.below ((Below.refl _ _).alloc (Nat.le_refl _) (.cells #[.string E.k, .string E.x, .slice E.A E.n E.c] 31))); have HRE := Lib.hid (show Rd (w4.alloc (.cells #[.string E.k, .string E.x, .slice E.A E.n E.c] 31)) (some ⟨w4.heap.size, 0, none⟩) (ecl E) from fun j v hv => ⟨w4.heap.size, 0, rfl, by simp, by rw [Nat.zero_add]; exact (Rg.Blk.new w4 _ _).cell j (by simpa [ecl] using hv)⟩))
            | (refine appN rfl _ _ 29 rfl Tryd.underlying29 infoT rfl (by decide) (by decide) HPP.out rfl rfl (show (ecl E).length = 1 * 3 from rfl) HRE.out (by intro u hu; simp [ecl] at hu; rcases hu with rfl | rfl | rfl <;> rfl) (by have := HLK.out; omega) HPA.out.bel.size ?_; intro v5' w5p h2 h3 h4; have HPW2 := Lib.hid (HPA.out.addP (fun V hV => HEV.out V (off_alloc hV)) h2 h3 h4); clear HPW HPP HPA HRE h2 h3 h4; have HPW := HPW2; clear HPW2)
            | (go_at_call 17; refine (HCA.out _).mono ?_; rintro e w5 ⟨rfl, hb⟩; skip; have HPWy := Lib.hid (HPW.out.below hb); clear HPW; have HPW := HPWy; clear HPWy; clear hb)
            | (refine app1 rfl _ _ 22 rfl (E := 9) (z := .string ⟨#[]⟩) (by' := 16) rfl rfl rfl (by decide) HPW.out.q rfl rfl rfl (by rw [List.length_map, HWL.out]; have := HLK.out; omega) HPW.out.bel.size ?_; intro v6' w6p h2 h3 h4; rw [snocS] at h2; have HPW3 := Lib.hid (HPW.out.addW h2 h3 (by rcases h4 with h4 | h4; exact .inl h4; exact .inr ⟨_, h4, Nat.le_succ _⟩)); clear h2 h3 h4))
          go_roundw
          case rel =>
            have REL := Lib.hid (show ∃ (k' : Nat) (l' : List El) (ws' : List (List UInt8)), k' ≤ m ∧ l'.length = k' ∧ Value.int .i64 ((k : Int) + 1) = .int .i64 k' ∧ Value.bool _ = .bool (nf l') ∧ Wds l' ws' ∧ PW w1 w6p v5' v6' l' ws' from ⟨k + 1, l ++ [E], ws ++ [t.txt], HGO.out, by rw [List.length_append, HLK.out.1]; rfl, rfl, by rw [nf_snoc, HEo.out, HNB.out] <;> rfl, HWD.out.snoc (fun u hu => by rw [HEo.out] at hu; cases hu; rfl), HPW3.out⟩)
            first
              | exact REL.out
              | ((repeat apply Exists.intro); refine ⟨?_, rfl⟩; exact REL.out)
          case measure => (first | (simp [intOf]; done) | (simp [intOf]; omega))
    · have HKM := Lib.hid (show k = m by have := HM.out; omega)
      have hdd : decide (k < n) = false ∨ (decide (k < n) = true ∧ decide (k < 4) = false) := by simp; omega
      obtain ⟨A6, c6, hv6, hr6, _⟩ := HPW.out.q.form
      rw [List.length_map, HWL.out] at hv6
      subst hv6
      have HBW := Lib.hid (HB.out.trans (HPW.out.bel.mono HB.out.size))
      clear HB
      have HB := HBW
      have hmc := mk_cases w1 wr _ _ l ws HPW.out HWD.out x HXL.out a (.of (HE.out.below HB.out))
      rw [HLK.out.1] at hmc
      obtain ⟨q, hq⟩ : ∃ q, cnt x = q := ⟨_, rfl⟩
      have HCX := Lib.hid hq
      rw [hq] at hmc
      clear hr6 HPW HWD hq hgo HBW
      rcases hmc with ⟨hmk, hcond⟩ | ⟨hnb, hk0, hcl, T, hT1, hT2, hT3, hT4, hmk, hwr⟩
      · have HMK := Lib.hid hmk
        clear hmk
        rcases hdd with d1 | ⟨d1, d2⟩
        all_goals
          rcases hcond with hnb | ⟨hnb, h0⟩ | ⟨hnb, h0, hcn⟩
          · rw [hnb]
            try have d1i : decide ((k : Int) < n) = false := by simp at d1 ⊢; omega
            try have d1i : decide ((k : Int) < n) = true := by simp at d1 ⊢; omega
            try have d2i : decide ((k : Int) < 4) = false := by simp at d2 ⊢; omega
            go_wp2_with (first
              | (go_at_call 29; refine HMK.out.mono ?_; rintro e w7 ⟨rfl, hb⟩; skip; have HBy := Lib.hid (HB.out.trans (Below.mono hb HB.out.size)); clear HB; have HB := HBy; clear HBy; clear hb)
              | (refine Rg.store_fresh rfl 31 _ _ rfl #[.string ⟨#[]⟩, .string ⟨#[]⟩, .slice none 0 0] _ 31 rfl rfl (by kernel_rfl) rfl (by simp [Value.oneCell']) ?_; intro XHX hX hbX; have HX := Lib.hid hX; have HBy := Lib.hid (HB.out.trans (Below.mono hbX HB.out.size)); clear HB; have HB := HBy; clear HBy; have x0 := HX.out.cell 0 (v := .string ⟨#[]⟩) rfl; have x1 := HX.out.cell 1 (v := .string ⟨#[]⟩) rfl; have x2 := HX.out.cell 2 (v := .slice none 0 0) rfl; clear hX hbX)
              | (go_at_call 30; refine (RCount_any _ x).mono ?_; rintro e w9 ⟨rfl, hb⟩; rw [HCX.out]; skip; have HBy := Lib.hid (HB.out.trans (Below.mono hb HB.out.size)); clear HB; have HB := HBy; clear HBy; have HXy := Lib.hid (HX.out.below hb HX.out.lt); clear HX; have HX := HXy; clear HXy; have x0 := HX.out.cell 0 (v := .string ⟨#[]⟩) rfl; have x1 := HX.out.cell 1 (v := .string ⟨#[]⟩) rfl; have x2 := HX.out.cell 2 (v := .slice none 0 0) rfl; clear hb)
              | (go_at_call 22; refine (HCO.out _ HB.out).mono ?_; rintro e w11 ⟨rfl, rfl⟩; skip)
              | (go_at_call 25; refine (Text_any _ _ _ _ _ _).mono ?_; rintro e w12 ⟨rfl, hb⟩; skip; have HBy := Lib.hid (HB.out.trans (Below.mono hb HB.out.size)); clear HB; have HB := HBy; clear HBy; clear hb))
            go_ret
            exact ⟨by first | rfl | simp, HB.out⟩
          · rw [hnb]
            subst h0
            first
              | exact absurd d2 (by decide)
              | skip
            all_goals
              try have d1i : decide (((0 : Nat) : Int) < n) = false := by simp at d1 ⊢; omega
              go_wp2_with (first
                | (go_at_call 29; refine HMK.out.mono ?_; rintro e w7 ⟨rfl, hb⟩; skip; have HBy := Lib.hid (HB.out.trans (Below.mono hb HB.out.size)); clear HB; have HB := HBy; clear HBy; clear hb)
                | (refine Rg.store_fresh rfl 31 _ _ rfl #[.string ⟨#[]⟩, .string ⟨#[]⟩, .slice none 0 0] _ 31 rfl rfl (by kernel_rfl) rfl (by simp [Value.oneCell']) ?_; intro XHX hX hbX; have HX := Lib.hid hX; have HBy := Lib.hid (HB.out.trans (Below.mono hbX HB.out.size)); clear HB; have HB := HBy; clear HBy; have x0 := HX.out.cell 0 (v := .string ⟨#[]⟩) rfl; have x1 := HX.out.cell 1 (v := .string ⟨#[]⟩) rfl; have x2 := HX.out.cell 2 (v := .slice none 0 0) rfl; clear hX hbX)
                | (go_at_call 30; refine (RCount_any _ x).mono ?_; rintro e w9 ⟨rfl, hb⟩; rw [HCX.out]; skip; have HBy := Lib.hid (HB.out.trans (Below.mono hb HB.out.size)); clear HB; have HB := HBy; clear HBy; have HXy := Lib.hid (HX.out.below hb HX.out.lt); clear HX; have HX := HXy; clear HXy; have x0 := HX.out.cell 0 (v := .string ⟨#[]⟩) rfl; have x1 := HX.out.cell 1 (v := .string ⟨#[]⟩) rfl; have x2 := HX.out.cell 2 (v := .slice none 0 0) rfl; clear hb)
                | (go_at_call 22; refine (HCO.out _ HB.out).mono ?_; rintro e w11 ⟨rfl, rfl⟩; skip)
                | (go_at_call 25; refine (Text_any _ _ _ _ _ _).mono ?_; rintro e w12 ⟨rfl, hb⟩; skip; have HBy := Lib.hid (HB.out.trans (Below.mono hb HB.out.size)); clear HB; have HB := HBy; clear HBy; clear hb))
              go_ret
              exact ⟨by first | rfl | simp, HB.out⟩
          · rw [hnb]
            have hk0 : ((k : Int) == 0) = false := by rw [beq_eq_false_iff_ne]; omega
            have hcn1 : ((q : Int) != (k : Int)) = true := by rw [bne_iff_ne]; omega
            try have d1i : decide ((k : Int) < n) = false := by simp at d1 ⊢; omega
            try have d1i : decide ((k : Int) < n) = true := by simp at d1 ⊢; omega
            try have d2i : decide ((k : Int) < 4) = false := by simp at d2 ⊢; omega
            go_wp2_with (first
              | (go_at_call 29; refine HMK.out.mono ?_; rintro e w7 ⟨rfl, hb⟩; skip; have HBy := Lib.hid (HB.out.trans (Below.mono hb HB.out.size)); clear HB; have HB := HBy; clear HBy; clear hb)
              | (refine Rg.store_fresh rfl 31 _ _ rfl #[.string ⟨#[]⟩, .string ⟨#[]⟩, .slice none 0 0] _ 31 rfl rfl (by kernel_rfl) rfl (by simp [Value.oneCell']) ?_; intro XHX hX hbX; have HX := Lib.hid hX; have HBy := Lib.hid (HB.out.trans (Below.mono hbX HB.out.size)); clear HB; have HB := HBy; clear HBy; have x0 := HX.out.cell 0 (v := .string ⟨#[]⟩) rfl; have x1 := HX.out.cell 1 (v := .string ⟨#[]⟩) rfl; have x2 := HX.out.cell 2 (v := .slice none 0 0) rfl; clear hX hbX)
              | (go_at_call 30; refine (RCount_any _ x).mono ?_; rintro e w9 ⟨rfl, hb⟩; rw [HCX.out]; skip; have HBy := Lib.hid (HB.out.trans (Below.mono hb HB.out.size)); clear HB; have HB := HBy; clear HBy; have HXy := Lib.hid (HX.out.below hb HX.out.lt); clear HX; have HX := HXy; clear HXy; have x0 := HX.out.cell 0 (v := .string ⟨#[]⟩) rfl; have x1 := HX.out.cell 1 (v := .string ⟨#[]⟩) rfl; have x2 := HX.out.cell 2 (v := .slice none 0 0) rfl; clear hb)
              | (go_at_call 22; refine (HCO.out _ HB.out).mono ?_; rintro e w11 ⟨rfl, rfl⟩; skip)
              | (go_at_call 25; refine (Text_any _ _ _ _ _ _).mono ?_; rintro e w12 ⟨rfl, hb⟩; skip; have HBy := Lib.hid (HB.out.trans (Below.mono hb HB.out.size)); clear HB; have HB := HBy; clear HBy; clear hb))
            go_ret
            exact ⟨by first | rfl | simp, HB.out⟩
      · have HMK := Lib.hid hmk
        have HWR := Lib.hid hwr
        have HPR := Lib.hid hT4
        have HPB := Lib.hid (fun W => Parse_some W T.txt T (by omega) (parse_iff.2 (Prs.self hT1)))
        have hknd : ((strB T.knd).toList == (strB x).toList) = true := by rw [hT3]; exact beq_self_eq_true _
        have hk00 : ((k : Int) == 0) = false := by rw [beq_eq_false_iff_ne]; omega
        subst hcl
        clear hmk hwr hT1 hT2 hT3 hT4 hk0
        rw [hnb]
        rcases hdd with d1 | ⟨d1, d2⟩
        all_goals
          try have d1i : decide ((q : Int) < n) = false := by simp at d1 ⊢; omega
          try have d1i : decide ((q : Int) < n) = true := by simp at d1 ⊢; omega
          try have d2i : decide ((q : Int) < 4) = false := by simp at d2 ⊢; omega
          go_wp2_with (first
            | (go_at_call 29; refine HMK.out.mono ?_; rintro e w7 ⟨A7, c7, rfl, htp, hb⟩; skip; have HTP := Lib.hid htp; have HBy := Lib.hid (HB.out.trans (Below.mono hb HB.out.size)); clear HB; have HB := HBy; clear HBy; have HBM := Lib.hid hb; clear hb htp)
            | (refine Rg.store_fresh rfl 31 _ _ rfl #[.string (strB (Tm.knd T)), .string (strB (Tm.txt T)), .slice A7 (Tm.prt T).length c7] _ 31 rfl rfl (by kernel_rfl) rfl (by simp [Value.oneCell']) ?_; intro XHX hX hbX; have HX := Lib.hid hX; have HBy := Lib.hid (HB.out.trans (Below.mono hbX HB.out.size)); clear HB; have HB := HBy; clear HBy; have HTPy := Lib.hid (HTP.out.below hbX); clear HTP; have HTP := HTPy; clear HTPy; have HBMy := Lib.hid (HBM.out.trans (Below.mono hbX HBM.out.size)); clear HBM; have HBM := HBMy; clear HBMy; have x0 := HX.out.cell 0 (v := .string (strB (Tm.knd T))) rfl; have x1 := HX.out.cell 1 (v := .string (strB (Tm.txt T))) rfl; have x2 := HX.out.cell 2 (v := .slice A7 (Tm.prt T).length c7) rfl; clear hX hbX)
            | (go_at_call 30; refine (RCount_any _ x).mono ?_; rintro e w9 ⟨rfl, hb⟩; rw [HCX.out]; skip; have HBy := Lib.hid (HB.out.trans (Below.mono hb HB.out.size)); clear HB; have HB := HBy; clear HBy; have HTPy := Lib.hid (HTP.out.below hb); clear HTP; have HTP := HTPy; clear HTPy; have HBMy := Lib.hid (HBM.out.trans (Below.mono hb HBM.out.size)); clear HBM; have HBM := HBMy; clear HBMy; have HXy := Lib.hid (HX.out.below hb HX.out.lt); clear HX; have HX := HXy; clear HXy; have x0 := HX.out.cell 0 (v := .string (strB (Tm.knd T))) rfl; have x1 := HX.out.cell 1 (v := .string (strB (Tm.txt T))) rfl; have x2 := HX.out.cell 2 (v := .slice A7 (Tm.prt T).length c7) rfl; clear hb)
            | (go_at_call 31; refine (HWR.out _ HBM.out).mono ?_; rintro e w10 ⟨rfl, hb⟩; skip; have HBy := Lib.hid (HB.out.trans (Below.mono hb HB.out.size)); clear HB; have HB := HBy; clear HBy; have HTPy := Lib.hid (HTP.out.below hb); clear HTP; have HTP := HTPy; clear HTPy; have HXy := Lib.hid (HX.out.below hb HX.out.lt); clear HX; have HX := HXy; clear HXy; have x0 := HX.out.cell 0 (v := .string (strB (Tm.knd T))) rfl; have x1 := HX.out.cell 1 (v := .string (strB (Tm.txt T))) rfl; have x2 := HX.out.cell 2 (v := .slice A7 (Tm.prt T).length c7) rfl; clear hb)
            | (go_at_call 25; refine (Text_any _ _ _ _ _ _).mono ?_; rintro e w12 ⟨rfl, hb⟩; skip; have HBy := Lib.hid (HB.out.trans (Below.mono hb HB.out.size)); clear HB; have HB := HBy; clear HBy; have HTPy := Lib.hid (HTP.out.below hb); clear HTP; have HTP := HTPy; clear HTPy; have HXy := Lib.hid (HX.out.below hb HX.out.lt); clear HX; have HX := HXy; clear HXy; have x0 := HX.out.cell 0 (v := .string (strB (Tm.knd T))) rfl; have x1 := HX.out.cell 1 (v := .string (strB (Tm.txt T))) rfl; have x2 := HX.out.cell 2 (v := .slice A7 (Tm.prt T).length c7) rfl; clear hb)
            | (go_at_call 26; refine (Kind_any _ _ _ _ _ _).mono ?_; rintro e w13 ⟨rfl, hb⟩; skip; have HBy := Lib.hid (HB.out.trans (Below.mono hb HB.out.size)); clear HB; have HB := HBy; clear HBy; have HTPy := Lib.hid (HTP.out.below hb); clear HTP; have HTP := HTPy; clear HTPy; have HXy := Lib.hid (HX.out.below hb HX.out.lt); clear HX; have HX := HXy; clear HXy; have x0 := HX.out.cell 0 (v := .string (strB (Tm.knd T))) rfl; have x1 := HX.out.cell 1 (v := .string (strB (Tm.txt T))) rfl; have x2 := HX.out.cell 2 (v := .slice A7 (Tm.prt T).length c7) rfl; clear hb)
            | (go_at_call 27; refine (TParts_any _ _ _ T _ HTP.out).mono ?_; rintro e w14 ⟨v14, rfl, ⟨A14, c14, ps14, rfl, _⟩, hb⟩; rw [HPR.out]; skip; have HBy := Lib.hid (HB.out.trans (Below.mono hb HB.out.size)); clear HB; have HB := HBy; clear HBy; have HXy := Lib.hid (HX.out.below hb HX.out.lt); clear HX; have HX := HXy; clear HXy; have x0 := HX.out.cell 0 (v := .string (strB (Tm.knd T))) rfl; have x1 := HX.out.cell 1 (v := .string (strB (Tm.txt T))) rfl; have x2 := HX.out.cell 2 (v := .slice A7 (Tm.prt T).length c7) rfl; clear hb)
            | (go_at_call 24; refine (HPB.out _).mono ?_; rintro e w15 ⟨p9, rfl, hft, hb⟩; obtain ⟨A9, c9, rfl⟩ := hft.tp.slice; skip; have HBy := Lib.hid (HB.out.trans (Below.mono hb HB.out.size)); clear HB; have HB := HBy; clear HBy; have HXy := Lib.hid (HX.out.below hb HX.out.lt); clear HX; have HX := HXy; clear HXy; have x0 := HX.out.cell 0 (v := .string (strB (Tm.knd T))) rfl; have x1 := HX.out.cell 1 (v := .string (strB (Tm.txt T))) rfl; have x2 := HX.out.cell 2 (v := .slice A7 (Tm.prt T).length c7) rfl; clear hft hb)
            | (refine Rg.store_fresh rfl 31 _ _ rfl #[.string (strB (Tm.knd T)), .string (strB (Tm.txt T)), .slice A9 (Tm.prt T).length c9] _ 31 rfl rfl (by kernel_rfl) rfl (by simp [Value.oneCell']) ?_; intro XHY hX hbX; have HY := Lib.hid hX; have HBy := Lib.hid (HB.out.trans (Below.mono hbX HB.out.size)); clear HB; have HB := HBy; clear HBy; have HXy := Lib.hid (HX.out.below hbX HX.out.lt); clear HX; have HX := HXy; clear HXy; have x0 := HX.out.cell 0 (v := .string (strB (Tm.knd T))) rfl; have x1 := HX.out.cell 1 (v := .string (strB (Tm.txt T))) rfl; have x2 := HX.out.cell 2 (v := .slice A7 (Tm.prt T).length c7) rfl; have y0 := HY.out.cell 0 (v := .string (strB (Tm.knd T))) rfl; have y1 := HY.out.cell 1 (v := .string (strB (Tm.txt T))) rfl; have y2 := HY.out.cell 2 (v := .slice A9 (Tm.prt T).length c9) rfl; clear hX hbX)
            | (go_at_call 28; refine (Same_any _ _ _ _ _ _ _ _ _ _ _).mono ?_; rintro e w16 ⟨rfl, hb⟩; rw [beq_self_eq_true]; skip; have HBy := Lib.hid (HB.out.trans (Below.mono hb HB.out.size)); clear HB; have HB := HBy; clear HBy; clear hb))
          go_ret
          exact ⟨by first | rfl | simp, HB.out⟩
end Go.Proofs.YtfcemnebhapidaaDoor.Te
