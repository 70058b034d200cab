/- The law TermMakes. -/
import Derived.Test.YtfcemnebhapidaaDoorTmMk
set_option linter.unusedVariables false
set_option linter.unusedSimpArgs false
namespace Go.Proofs.YtfcemnebhapidaaDoor.Te
open Go.RowKit Go.Proofs.YtfcemnebhapidaaDoor.Ow Go.Proofs.YtfcemnebhapidaaDoor.Mp Go.Maps
/-- a part as it is passed -/
structure El where
  o : Option Tm
  k : ByteArray
  x : ByteArray
  A : Option Addr
  n : Nat
  c : Nat
def ecl (e : El) : List Value := [.string e.k, .string e.x, .slice e.A e.n e.c]
@[irreducible] def ecs (l : List El) : List Value := l.flatMap ecl
theorem ecs_nil : ecs [] = [] := by unfold ecs; rfl
theorem ecs_snoc (l : List El) (e : El) : ecs l ++ ecl e = ecs (l ++ [e]) := by unfold ecs; simp
theorem ecs_one (e : El) : ecs [e] = ecl e := by unfold ecs; simp
theorem ecs_two (e f : El) : ecs [e, f] = ecl e ++ ecl f := by unfold ecs; simp
def EV (V : World) (e : El) : Prop :=
  match e.o with
  | some t => e.k = strB t.knd ∧ e.x = strB t.txt ∧ e.n = t.prt.length ∧ TP V t (.slice e.A e.n e.c) ∧ t.wf ∧ t.txt.length ≤ 100
  | none => e.k = ⟨#[]⟩ ∧ e.x = ⟨#[]⟩ ∧ e.A = none ∧ e.n = 0 ∧ e.c = 0
theorem EV.some_ {V : World} {e : El} {t : Tm} (h : EV V e) (ho : e.o = some t) : e.k = strB t.knd ∧ e.x = strB t.txt ∧ e.n = t.prt.length ∧ TP V t (.slice e.A e.n e.c) ∧ t.wf ∧ t.txt.length ≤ 100 := by unfold EV at h; rw [ho] at h; exact h
theorem EV.none_ {V : World} {e : El} (h : EV V e) (ho : e.o = none) : e.k = ⟨#[]⟩ ∧ e.x = ⟨#[]⟩ ∧ e.A = none ∧ e.n = 0 ∧ e.c = 0 := by unfold EV at h; rw [ho] at h; exact h
/-- V stands as W, but for two blocks -/
def Off (W V : World) (g h : Option Nat) : Prop := W.heap.size ≤ V.heap.size ∧ ∀ k, k < W.heap.size → some k ≠ g → some k ≠ h → V.heap[k]? = W.heap[k]?
theorem Off.refl (W : World) (g h : Option Nat) : Off W W g h := ⟨Nat.le_refl _, fun _ _ _ _ => rfl⟩
/-- the parts and their words on the way -/
structure PW (w1 W : World) (v5 v6 : Value) (l : List El) (ws : List (List UInt8)) : Prop where
  p : W.ownsRow w1.heap.size 31 3 v5 l.length (ecs l)
  q : Owns W w1.heap.size 9 v6 (ws.map encStr)
  bel : Below w1.heap.size w1 W
  sep : ∀ g, v5.ownBlock = some g → v6.ownBlock ≠ some g
  ind : ∀ V, Off W V v5.ownBlock v6.ownBlock → ∀ e ∈ l, EV V e
theorem PW.start (w1 : World) : PW w1 w1 (.slice none 0 0) (.slice none 0 0) [] [] :=
  ⟨by rw [ecs_nil]; exact World.ownsRow_nil _ _ _ _, Owns.nil _ _ _, Below.refl _ _, (fun g h => by cases h), fun V _ e he => by simp at he⟩
theorem PW.below {w1 W W' : World} {v5 v6 : Value} {l : List El} {ws : List (List UInt8)} (h : PW w1 W v5 v6 l ws) (hb : Below W.heap.size W W') : PW w1 W' v5 v6 l ws :=
  ⟨ownsBelow h.p hb, h.q.below hb, h.bel.trans (hb.mono h.bel.size), h.sep, fun V hV => h.ind V ⟨Nat.le_trans hb.size hV.1, fun k hk h1 h2 => (hV.2 k (Nat.lt_of_lt_of_le hk hb.size) h1 h2).trans (hb.block k hk)⟩⟩
theorem own_ltR {w : World} {B n sz : Nat} {E : TypeId} {v : Value} {xs : List Value} (h : w.ownsRow B E sz v n xs) : ∀ k, v.ownBlock = some k → B ≤ k ∧ k < w.heap.size := World.ownsRow.lt h
theorem PW.addP {w1 W W' : World} {v5 v6 v' : Value} {l : List El} {ws : List (List UInt8)} (h : PW w1 W v5 v6 l ws) {e : El} (he : ∀ V, Off W V v5.ownBlock v6.ownBlock → EV V e)
    (ho : W'.ownsRow w1.heap.size 31 3 v' (l.length + 1) (ecs l ++ ecl e)) (hg : W.grownBy W' v5.ownBlock) (hat : v'.ownBlock = v5.ownBlock ∨ v'.ownBlock = some W.heap.size) : PW w1 W' v' v6 (l ++ [e]) ws := by
  have hsz := h.bel.size
  have hoff : ∀ V, Off W' V v'.ownBlock v6.ownBlock → Off W V v5.ownBlock v6.ownBlock := fun V hV => by
    refine ⟨Nat.le_trans hg.size hV.1, fun k hk h1 h2 => (hV.2 k (Nat.lt_of_lt_of_le hk hg.size) (fun e => ?_) h2).trans (hg.block k hk h1)⟩
    rcases hat with h3 | h3
    · rw [h3] at e; exact h1 e
    · rw [h3] at e; have := Option.some.inj e; omega
  refine ⟨by rw [List.length_append, ← ecs_snoc]; exact ho, h.q.kept hg ?_, Below.grown h.bel hg hsz (fun k hk => (own_ltR h.p k hk).1), fun g h1 h2 => ?_, fun V hV f hf => ?_⟩
  · cases h6 : v6.ownBlock with
    | none => exact .inl rfl
    | some g6 => exact .inr fun e => h.sep g6 e.symm h6
  · rcases hat with h3 | h3
    · exact h.sep g (h3 ▸ h1) h2
    · rw [h3] at h1
      have h4 := Option.some.inj h1
      have h5 := (h.q.lt g h2).2
      omega
  · rcases List.mem_append.1 hf with hf | hf
    · exact h.ind V (hoff V hV) f hf
    · rw [List.mem_singleton.1 hf]; exact he V (hoff V hV)
theorem PW.addW {w1 W W' : World} {v5 v6 v' : Value} {l : List El} {ws : List (List UInt8)} (h : PW w1 W v5 v6 l ws) {y : List UInt8}
    (ho : Owns W' w1.heap.size 9 v' ((ws ++ [y]).map encStr)) (hg : W.grownBy W' v6.ownBlock) (hat : v'.ownBlock = v6.ownBlock ∨ ∃ g, v'.ownBlock = some g ∧ W.heap.size ≤ g) : PW w1 W' v5 v' l (ws ++ [y]) := by
  have hsz := h.bel.size
  have hoff : ∀ V, Off W' V v5.ownBlock v'.ownBlock → Off W V v5.ownBlock v6.ownBlock := fun V hV => by
    refine ⟨Nat.le_trans hg.size hV.1, fun k hk h1 h2 => (hV.2 k (Nat.lt_of_lt_of_le hk hg.size) h1 (fun e => ?_)).trans (hg.block k hk h2)⟩
    rcases hat with h3 | ⟨g, h3, h4⟩
    · rw [h3] at e; exact h2 e
    · rw [h3] at e; have := Option.some.inj e; omega
  refine ⟨World.ownsRow.kept h.p hg ?_, ho, Below.grown h.bel hg hsz (fun k hk => (h.q.lt k hk).1), fun g h1 h2 => ?_, fun V hV => h.ind V (hoff V hV)⟩
  · cases h5 : v5.ownBlock with
    | none => exact .inl rfl
    | some g5 => exact .inr fun e => h.sep g5 h5 e.symm
  · rcases hat with h3 | ⟨g', h3, h4⟩
    · exact h.sep g h1 (h3 ▸ h2)
    · rw [h3] at h2
      have h4 := Option.some.inj h2
      have h5 := (own_ltR h.p g h1).2
      omega
theorem OfE (w : World) (s : List UInt8) (hs : s.length ≤ 100) (a : Nat → Addr) (hE : ErrsT w a) :
    Calls Tryd.prog 13 #[.string (strB s)] w fun e w' => ∃ E : El, E.o = parse s ∧ e = .returned (.agg #[.string E.k, .string E.x, .slice E.A E.n E.c]) ∧ (∀ V, w'.heap.size ≤ V.heap.size → (∀ k, w.heap.size ≤ k → k < w'.heap.size → V.heap[k]? = w'.heap[k]?) → EV V E) ∧ Below w.heap.size w w' := by
  cases hp : parse s with
  | none =>
    refine (Of_none w s (by omega) hp a hE).mono ?_
    rintro e w' ⟨rfl, hb⟩
    exact ⟨⟨none, _, _, _, _, _⟩, rfl, rfl, fun V _ _ => ⟨rfl, rfl, rfl, rfl, rfl⟩, hb⟩
  | some t =>
    refine (Of_some w s t (by omega) hp a hE).mono ?_
    rintro e w' ⟨A, c, rfl, hf, hb⟩
    exact ⟨⟨some t, _, _, _, _, _⟩, rfl, rfl, fun V h1 h2 => ⟨rfl, rfl, rfl, hf V h1 h2, (parse_iff.1 hp).wf, by rw [parse_len hp]; exact hs⟩, hb⟩
theorem cnt_le (x : List UInt8) : cnt x ≤ 2 := by unfold cnt; split; omega; split <;> omega
theorem cnt_word {x : List UInt8} (h : cnt x ≠ 0) : numW x < 7 := by
  unfold cnt at h
  split at h
  · omega
  · split at h
    · assumption
    · exact absurd rfl h
theorem cnt_w1 {x : List UInt8} (h : cnt x = 1) : numW x < 3 := by
  unfold cnt at h
  split at h
  · assumption
  · split at h <;> omega
theorem cnt_w2 {x : List UInt8} (h : cnt x = 2) : 3 ≤ numW x := by
  unfold cnt at h
  split at h
  · omega
  · omega
theorem mk2_knd (k : Nat) (a b : Tm) : (mk2 k a b).knd = word k := by unfold mk2; split <;> rfl
theorem mk2_prt (k : Nat) (a b : Tm) : (mk2 k a b).prt.length = 2 := by unfold mk2; split <;> rfl
/-- the words go with the parts -/
def Wds (l : List El) (ws : List (List UInt8)) : Prop := ws.length = l.length ∧ ∀ (j : Nat) (e : El) (t : Tm), l[j]? = some e → e.o = some t → ws[j]? = some t.txt
theorem Wds.snoc {l : List El} {ws : List (List UInt8)} (h : Wds l ws) {e : El} {y : List UInt8} (hy : ∀ t, e.o = some t → y = t.txt) : Wds (l ++ [e]) (ws ++ [y]) := by
  refine ⟨by simp [h.1], fun j f t hj ht => ?_⟩
  by_cases hlt : j < l.length
  · rw [List.getElem?_append_left hlt] at hj
    rw [List.getElem?_append_left (by rw [h.1]; exact hlt)]
    exact h.2 j f t hj ht
  · rw [List.getElem?_append_right (by omega)] at hj
    have hj0 : j - l.length = 0 := by have := (List.getElem?_eq_some_iff.1 hj).1; simp at this; omega
    rw [hj0] at hj
    simp at hj
    subst hj
    rw [List.getElem?_append_right (by rw [h.1]; omega), h.1, hj0]
    simp [hy t ht]
def nf (l : List El) : Bool := l.any fun e => e.o.isNone
theorem nf_snoc (l : List El) (e : El) : nf (l ++ [e]) = (nf l || e.o.isNone) := by unfold nf; simp
theorem mk_cases (w1 W : World) (v5 v6 : Value) (l : List El) (ws : List (List UInt8)) (h : PW w1 W v5 v6 l ws) (hw : Wds l ws) (x : List UInt8) (hxl : x.length ≤ 9) (a : Nat → Addr) (hE : ErrsT W a) :
    (Calls Tryd.prog 29 #[.string (strB x), v5] W (fun e w' => e = .returned (.tuple #[.agg #[.string ⟨#[]⟩, .string ⟨#[]⟩, .slice none 0 0], .iface 137 (.pointer (some (a 3)))]) ∧ Below W.heap.size W w') ∧ (nf l = true ∨ (nf l = false ∧ l.length = 0) ∨ (nf l = false ∧ l.length ≠ 0 ∧ cnt x ≠ l.length)))
    ∨ (nf l = false ∧ l.length ≠ 0 ∧ cnt x = l.length ∧ ∃ T : Tm, T.wf ∧ T.txt.length ≤ 300 ∧ T.knd = x ∧ T.prt.length = l.length ∧ Calls Tryd.prog 29 #[.string (strB x), v5] W (fun e w' => ∃ A c, e = .returned (.tuple #[.agg (tv T (.slice A T.prt.length c)), .nilIface]) ∧ TP w' T (.slice A T.prt.length c) ∧ Below W.heap.size W w')
        ∧ ∀ W', Below W.heap.size W W' → Calls Tryd.prog 31 #[.string (strB x), v6] W' fun e w' => e = .returned (.string (strB T.txt)) ∧ Below W'.heap.size W' w') := by
  by_cases hc : cnt x = 0 ∨ cnt x ≠ l.length
  · left
    refine ⟨?_, ?_⟩
    · rcases h.p.2 with ⟨rfl, h0⟩ | ⟨g, cap, cur, rfl, _⟩
      · rw [h0] at hc
        exact Make_cnt W x none 0 0 hc a hE
      · exact Make_cnt W x _ l.length cap hc a hE
    · cases hn : nf l with
      | true => exact .inl rfl
      | false =>
        by_cases h0 : l.length = 0
        · exact .inr (.inl ⟨rfl, h0⟩)
        · exact .inr (.inr ⟨rfl, h0, by rcases hc with hc | hc; omega; exact hc⟩)
  · have hc0 : cnt x ≠ 0 := fun e => hc (.inl e)
    have hcl : cnt x = l.length := Classical.byContradiction fun e => hc (.inr e)
    have hc2 := cnt_le x
    obtain ⟨g, c, rfl, hnc, hcm, hBg, hgl⟩ := own_form h.p (by omega)
    have hrg := (own_range h.p).1
    have hev := h.ind W (Off.refl _ _ _)
    obtain ⟨A6, c6, hv6, hr6, _⟩ := h.q.form
    rw [List.length_map, hw.1] at hv6
    subst hv6
    have hwd := word_numW (cnt_word hc0)
    match l, hcl, hnc, hrg, hev, hw, hr6 with
    | [], hcl, _, _, _, _, _ => exact absurd hcl hc0
    | [e], hcl, hnc, hrg, hev, hw, hr6 =>
      rw [ecs_one] at hrg
      cases he : e.o with
      | none =>
        left
        obtain ⟨e1, e2, e3, e4, e5⟩ := (hev e (by simp)).none_ he
        refine ⟨Make_bad0 W x g 0 1 c hcl (Nat.le_refl _) (by decide) hgl (fun j v hv => ?_) a hE, .inl (by simp [nf, he])⟩
        have := hrg j v (by rw [ecl, e1, e2, e3, e4, e5]; simpa using hv)
        exact this
      | some t =>
        right
        obtain ⟨e1, e2, e3, e4, e5, e6⟩ := (hev e (by simp)).some_ he
        have hk := cnt_w1 hcl
        have hcells : ∀ j v, (#[.string (strB (Tm.knd t)), .string (strB (Tm.txt t)), .slice e.A (Tm.prt t).length e.c] : Array Value)[j]? = some v → W.cell? ⟨g, 0 + j, none⟩ = some v := fun j v hv => hrg j v (by rw [ecl, e1, e2, e3]; simpa using hv)
        rw [e3] at e4
        have hts : TS (TP W) W (.slice (some ⟨g, 0, none⟩) 1 c) [t] := ⟨some ⟨g, 0, none⟩, c, [.slice e.A t.prt.length e.c], rfl, hnc, hcm, rfl, rd_of_range (by
          show W.rangeAt g 0 (tcs [(t, _)])
          rw [tcs_one]
          intro j v hv
          exact hrg j v (by rw [ecl, e1, e2, e3]; simpa [tcl] using hv)), fun j u p hj hp => by
            match j, hj, hp with
            | 0, hj, hp => cases hj; cases hp; exact e4
            | j + 1, hj, _ => simp at hj⟩
        have hmk := Make_ok1 W (numW x) hk g 0 c t e5 e6 e.A e.c hgl hcells hts
        rw [hwd] at hmk
        have hw0 := hw.2 0 e t rfl he
        refine ⟨by simp [nf, he], by simp, hcl, .one (numW x) t, ⟨hk, e5⟩, by simp [Tm.txt, hwd]; omega, by simp [Tm.knd, hwd], rfl, hmk, fun W' hW' => ?_⟩
        match ws, hw.1, hw0, hr6 with
        | [y], _, hw0, hr6 =>
          simp at hw0
          subst hw0
          exact RWrite_mk1 W' A6 c6 x t hk (by omega) (by omega) (hr6.below hW')
    | [e, f], hcl, hnc, hrg, hev, hw, hr6 =>
      rw [ecs_two] at hrg
      have hrf : ∀ j v, (ecl f)[j]? = some v → W.cell? ⟨g, 0 + 3 + j, none⟩ = some v := fun j v hv => by
        have := hrg (3 + j) v (by rw [List.getElem?_append_right (by simp [ecl]), show 3 + j - (ecl e).length = j by simp [ecl]]; exact hv)
        rw [Nat.zero_add] at this ⊢
        exact this
      have hre : ∀ j v, (ecl e)[j]? = some v → W.cell? ⟨g, 0 + j, none⟩ = some v := fun j v hv => hrg j v (by rw [List.getElem?_append_left (by have := (List.getElem?_eq_some_iff.1 hv).1; exact this)]; exact hv)
      cases he : e.o with
      | none =>
        left
        obtain ⟨e1, e2, e3, e4, e5⟩ := (hev e (by simp)).none_ he
        exact ⟨Make_bad0 W x g 0 2 c hcl (by decide) (Nat.le_refl _) hgl (fun j v hv => hre j v (by rw [ecl, e1, e2, e3, e4, e5]; simpa using hv)) a hE, .inl (by simp [nf, he])⟩
      | some t =>
        obtain ⟨e1, e2, e3, e4, e5, e6⟩ := (hev e (by simp)).some_ he
        have hcells : ∀ j v, (#[.string (strB (Tm.knd t)), .string (strB (Tm.txt t)), .slice e.A (Tm.prt t).length e.c] : Array Value)[j]? = some v → W.cell? ⟨g, 0 + j, none⟩ = some v := fun j v hv => hre j v (by rw [ecl, e1, e2, e3]; simpa using hv)
        cases hf : f.o with
        | none =>
          left
          obtain ⟨f1, f2, f3, f4, f5⟩ := (hev f (by simp)).none_ hf
          exact ⟨Make_bad1 W x g 0 c hcl t e5 e.A e.c hgl hcells (fun j v hv => hrf j v (by rw [ecl, f1, f2, f3, f4, f5]; simpa using hv)) a hE, .inl (by simp [nf, he, hf])⟩
        | some u =>
          right
          obtain ⟨f1, f2, f3, f4, f5, f6⟩ := (hev f (by simp)).some_ hf
          have hcells2 : ∀ j v, (#[.string (strB (Tm.knd u)), .string (strB (Tm.txt u)), .slice f.A (Tm.prt u).length f.c] : Array Value)[j]? = some v → W.cell? ⟨g, 0 + 3 + j, none⟩ = some v := fun j v hv => hrf j v (by rw [ecl, f1, f2, f3]; simpa using hv)
          rw [e3] at e4
          rw [f3] at f4
          have h3 := cnt_w2 hcl
          have h7 := cnt_word hc0
          have hts : TS (TP W) W (.slice (some ⟨g, 0, none⟩) 2 c) [t, u] := ⟨some ⟨g, 0, none⟩, c, [.slice e.A t.prt.length e.c, .slice f.A u.prt.length f.c], rfl, hnc, hcm, rfl, rd_of_range (by
            show W.rangeAt g 0 (tcs [(t, _), (u, _)])
            rw [tcs_two]
            intro j v hv
            exact hrg j v (by rw [ecl, ecl, e1, e2, e3, f1, f2, f3]; simpa [tcl] using hv)), fun j y p hj hp => by
              match j, hj, hp with
              | 0, hj, hp => cases hj; cases hp; exact e4
              | 1, hj, hp => cases hj; cases hp; exact f4
              | j + 2, hj, _ => simp at hj⟩
          have hmk := Make_ok2 W (numW x) h3 h7 g 0 c t e5 e6 e.A e.c u f5 f6 f.A f.c hgl hcells hcells2 hts
          rw [hwd] at hmk
          have hw0 := hw.2 0 e t rfl he
          have hw1 := hw.2 1 f u rfl hf
          refine ⟨by simp [nf, he, hf], by simp, hcl, mk2 (numW x) t u, mk2_wf h3 h7 e5 f5, by rw [mk2_len]; simp [Tm.txt, hwd]; omega, by rw [mk2_knd, hwd], mk2_prt _ _ _, hmk, fun W' hW' => ?_⟩
          match ws, hw.1, hw0, hw1, hr6 with
          | [y, z], _, hw0, hw1, hr6 =>
            simp at hw0 hw1
            subst hw0 hw1
            exact RWrite_mk W' A6 c6 x t u h7 (by omega) (by omega) (by omega) (hr6.below hW')
    | _ :: _ :: _ :: _, hcl, _, _, _, _, _ => simp at hcl; omega
end Go.Proofs.YtfcemnebhapidaaDoor.Te
