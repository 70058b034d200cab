/- sign, count, slices of terms, build. -/
import Derived.Test.YtfcemnebhapidaaDoorTmWord
import Derived.Deep.MidRow
set_option linter.unusedVariables false
set_option linter.unusedSimpArgs false
namespace Go.Proofs.YtfcemnebhapidaaDoor.Te
open Go.RowKit Go.Proofs.YtfcemnebhapidaaDoor.Ow
theorem pfx_yes (c : UInt8) (r : List UInt8) : Lib.hasPrefix (c :: r) [c] = true ∧ Lib.trimPrefix (c :: r) [c] = r := by
  have h : Lib.hasPrefix (c :: r) [c] = true := by unfold Lib.hasPrefix; simp [List.isPrefixOf]
  exact ⟨h, by unfold Lib.trimPrefix; rw [h]; rfl⟩
theorem pfx_no {c : UInt8} {s : List UInt8} (h : ∀ r, s ≠ c :: r) : Lib.hasPrefix s [c] = false ∧ Lib.trimPrefix s [c] = s := by
  have h1 : Lib.hasPrefix s [c] = false := by
    unfold Lib.hasPrefix
    cases s with
    | nil => rfl
    | cons d s =>
      have : d ≠ c := fun e => h s (by rw [e])
      simp [List.isPrefixOf]
      exact fun e => this e.symm
  exact ⟨h1, by unfold Lib.trimPrefix; rw [h1]; rfl⟩
theorem sign_yes (w : World) (b : Nat) (c : UInt8) (r : List UInt8) (hB : Rg.Blk w b 74 #[.string (strB (c :: r))]) :
    Calls Tryd.prog 52 #[.pointer (some ⟨b, 0, none⟩), .string (strB [c])] w fun e w' => e = .returned (.bool true) ∧ Rg.Blk w' b 74 #[.string (strB r)] ∧ w.grownBy w' (some b) := by
  have HB := Lib.hid hB
  have HC := Lib.hid (show ∀ W, Calls Tryd.prog 59 #[.string (strB (c :: r)), .string (strB [c])] W fun e w' => e = .returned (.tuple #[.string (strB r), .bool true]) ∧ w' = W from fun W => by
    have := Tryd.strings_CutPrefix (strB (c :: r)) (strB [c]) W
    rw [show Lib.trimPrefix (strB (c :: r)).data.toList (strB [c]).data.toList = r from (pfx_yes c r).2, show Lib.hasPrefix (strB (c :: r)).data.toList (strB [c]).data.toList = true from (pfx_yes c r).1] at this
    exact this)
  have c0 := HB.out.cell 0 (v := .string (strB (c :: r))) rfl
  clear hB
  go_enter Tryd.func52, Tryd.ntmps52
  go_wp2_with (first
    | (go_at_call 59; refine (HC.out _).mono ?_; rintro e w1 ⟨rfl, rfl⟩; skip)
    | (refine store_str rfl 9 _ _ rfl (b := b) (j := 0) rfl rfl Tryd.underlying9 (by kernel_rfl) HB.out rfl ?_; intro V hV hgV; have HV := Lib.hid hV; have HGV := Lib.hid hgV; clear hV hgV))
  go_ret
  exact ⟨rfl, HV.out, HGV.out⟩
theorem sign_no (w : World) (b : Nat) (c : UInt8) (s : List UInt8) (hs : ∀ r, s ≠ c :: r) (hB : Rg.Blk w b 74 #[.string (strB s)]) :
    Calls Tryd.prog 52 #[.pointer (some ⟨b, 0, none⟩), .string (strB [c])] w fun e w' => e = .returned (.bool false) ∧ Rg.Blk w' b 74 #[.string (strB s)] ∧ w.grownBy w' (some b) := by
  have HB := Lib.hid hB
  have HC := Lib.hid (show ∀ W, Calls Tryd.prog 59 #[.string (strB s), .string (strB [c])] W fun e w' => e = .returned (.tuple #[.string (strB s), .bool false]) ∧ w' = W from fun W => by
    have := Tryd.strings_CutPrefix (strB s) (strB [c]) W
    rw [show Lib.trimPrefix (strB s).data.toList (strB [c]).data.toList = s from (pfx_no hs).2, show Lib.hasPrefix (strB s).data.toList (strB [c]).data.toList = false from (pfx_no hs).1] at this
    exact this)
  have c0 := HB.out.cell 0 (v := .string (strB s)) rfl
  clear hB
  go_enter Tryd.func52, Tryd.ntmps52
  go_wp2_with (first
    | (go_at_call 59; refine (HC.out _).mono ?_; rintro e w1 ⟨rfl, rfl⟩; skip)
    | (refine store_str rfl 9 _ _ rfl (b := b) (j := 0) rfl rfl Tryd.underlying9 (by kernel_rfl) HB.out rfl ?_; intro V hV hgV; have HV := Lib.hid hV; have HGV := Lib.hid hgV; clear hV hgV))
  go_ret
  exact ⟨rfl, HV.out, HGV.out⟩
theorem count_any (w : World) (x : List UInt8) : Calls Tryd.prog 42 #[.string (strB x)] w fun e w' => e = .returned (.int .i64 (cnt x : Nat)) ∧ w = w' := by
  by_cases n0 : x = word 0
  · have hx := n0
    have HC := Lib.hid (show cnt x = 1 by rw [hx]; decide)
    have h0 : ((strB x).toList == [104, 97, 115, 104]) = true := by rw [strB_toList, hx]; rfl
    have h1 : ((strB x).toList == [112, 111, 105, 110, 116]) = false := by rw [strB_toList, hx]; rfl
    have h2 : ((strB x).toList == [107, 101, 121]) = false := by rw [strB_toList, hx]; rfl
    have h3 : ((strB x).toList == [112, 97, 105, 114]) = false := by rw [strB_toList, hx]; rfl
    have h4 : ((strB x).toList == [115, 104, 97, 114, 101]) = false := by rw [strB_toList, hx]; rfl
    have h5 : ((strB x).toList == [115, 105, 103, 110]) = false := by rw [strB_toList, hx]; rfl
    have h6 : ((strB x).toList == [115, 101, 97, 108]) = false := by rw [strB_toList, hx]; rfl
    clear hx n0
    go_enter Tryd.func42, Tryd.ntmps42
    go_wp2
    go_ret
    exact ⟨by rw [HC.out]; rfl, rfl⟩
  · have z0 := True.intro
    by_cases n1 : x = word 1
    · have hx := n1
      have HC := Lib.hid (show cnt x = 1 by rw [hx]; decide)
      have h0 : ((strB x).toList == [104, 97, 115, 104]) = false := by rw [strB_toList, hx]; rfl
      have h1 : ((strB x).toList == [112, 111, 105, 110, 116]) = true := by rw [strB_toList, hx]; rfl
      have h2 : ((strB x).toList == [107, 101, 121]) = false := by rw [strB_toList, hx]; rfl
      have h3 : ((strB x).toList == [112, 97, 105, 114]) = false := by rw [strB_toList, hx]; rfl
      have h4 : ((strB x).toList == [115, 104, 97, 114, 101]) = false := by rw [strB_toList, hx]; rfl
      have h5 : ((strB x).toList == [115, 105, 103, 110]) = false := by rw [strB_toList, hx]; rfl
      have h6 : ((strB x).toList == [115, 101, 97, 108]) = false := by rw [strB_toList, hx]; rfl
      clear hx n0 n1
      go_enter Tryd.func42, Tryd.ntmps42
      go_wp2
      go_ret
      exact ⟨by rw [HC.out]; rfl, rfl⟩
    · have z1 := True.intro
      by_cases n2 : x = word 2
      · have hx := n2
        have HC := Lib.hid (show cnt x = 1 by rw [hx]; decide)
        have h0 : ((strB x).toList == [104, 97, 115, 104]) = false := by rw [strB_toList, hx]; rfl
        have h1 : ((strB x).toList == [112, 111, 105, 110, 116]) = false := by rw [strB_toList, hx]; rfl
        have h2 : ((strB x).toList == [107, 101, 121]) = true := by rw [strB_toList, hx]; rfl
        have h3 : ((strB x).toList == [112, 97, 105, 114]) = false := by rw [strB_toList, hx]; rfl
        have h4 : ((strB x).toList == [115, 104, 97, 114, 101]) = false := by rw [strB_toList, hx]; rfl
        have h5 : ((strB x).toList == [115, 105, 103, 110]) = false := by rw [strB_toList, hx]; rfl
        have h6 : ((strB x).toList == [115, 101, 97, 108]) = false := by rw [strB_toList, hx]; rfl
        clear hx n0 n1 n2
        go_enter Tryd.func42, Tryd.ntmps42
        go_wp2
        go_ret
        exact ⟨by rw [HC.out]; rfl, rfl⟩
      · have z2 := True.intro
        by_cases n3 : x = word 3
        · have hx := n3
          have HC := Lib.hid (show cnt x = 2 by rw [hx]; decide)
          have h0 : ((strB x).toList == [104, 97, 115, 104]) = false := by rw [strB_toList, hx]; rfl
          have h1 : ((strB x).toList == [112, 111, 105, 110, 116]) = false := by rw [strB_toList, hx]; rfl
          have h2 : ((strB x).toList == [107, 101, 121]) = false := by rw [strB_toList, hx]; rfl
          have h3 : ((strB x).toList == [112, 97, 105, 114]) = true := by rw [strB_toList, hx]; rfl
          have h4 : ((strB x).toList == [115, 104, 97, 114, 101]) = false := by rw [strB_toList, hx]; rfl
          have h5 : ((strB x).toList == [115, 105, 103, 110]) = false := by rw [strB_toList, hx]; rfl
          have h6 : ((strB x).toList == [115, 101, 97, 108]) = false := by rw [strB_toList, hx]; rfl
          clear hx n0 n1 n2 n3
          go_enter Tryd.func42, Tryd.ntmps42
          go_wp2
          go_ret
          exact ⟨by rw [HC.out]; rfl, rfl⟩
        · have z3 := True.intro
          by_cases n4 : x = word 4
          · have hx := n4
            have HC := Lib.hid (show cnt x = 2 by rw [hx]; decide)
            have h0 : ((strB x).toList == [104, 97, 115, 104]) = false := by rw [strB_toList, hx]; rfl
            have h1 : ((strB x).toList == [112, 111, 105, 110, 116]) = false := by rw [strB_toList, hx]; rfl
            have h2 : ((strB x).toList == [107, 101, 121]) = false := by rw [strB_toList, hx]; rfl
            have h3 : ((strB x).toList == [112, 97, 105, 114]) = false := by rw [strB_toList, hx]; rfl
            have h4 : ((strB x).toList == [115, 104, 97, 114, 101]) = true := by rw [strB_toList, hx]; rfl
            have h5 : ((strB x).toList == [115, 105, 103, 110]) = false := by rw [strB_toList, hx]; rfl
            have h6 : ((strB x).toList == [115, 101, 97, 108]) = false := by rw [strB_toList, hx]; rfl
            clear hx n0 n1 n2 n3 n4
            go_enter Tryd.func42, Tryd.ntmps42
            go_wp2
            go_ret
            exact ⟨by rw [HC.out]; rfl, rfl⟩
          · have z4 := True.intro
            by_cases n5 : x = word 5
            · have hx := n5
              have HC := Lib.hid (show cnt x = 2 by rw [hx]; decide)
              have h0 : ((strB x).toList == [104, 97, 115, 104]) = false := by rw [strB_toList, hx]; rfl
              have h1 : ((strB x).toList == [112, 111, 105, 110, 116]) = false := by rw [strB_toList, hx]; rfl
              have h2 : ((strB x).toList == [107, 101, 121]) = false := by rw [strB_toList, hx]; rfl
              have h3 : ((strB x).toList == [112, 97, 105, 114]) = false := by rw [strB_toList, hx]; rfl
              have h4 : ((strB x).toList == [115, 104, 97, 114, 101]) = false := by rw [strB_toList, hx]; rfl
              have h5 : ((strB x).toList == [115, 105, 103, 110]) = true := by rw [strB_toList, hx]; rfl
              have h6 : ((strB x).toList == [115, 101, 97, 108]) = false := by rw [strB_toList, hx]; rfl
              clear hx n0 n1 n2 n3 n4 n5
              go_enter Tryd.func42, Tryd.ntmps42
              go_wp2
              go_ret
              exact ⟨by rw [HC.out]; rfl, rfl⟩
            · have z5 := True.intro
              by_cases n6 : x = word 6
              · have hx := n6
                have HC := Lib.hid (show cnt x = 2 by rw [hx]; decide)
                have h0 : ((strB x).toList == [104, 97, 115, 104]) = false := by rw [strB_toList, hx]; rfl
                have h1 : ((strB x).toList == [112, 111, 105, 110, 116]) = false := by rw [strB_toList, hx]; rfl
                have h2 : ((strB x).toList == [107, 101, 121]) = false := by rw [strB_toList, hx]; rfl
                have h3 : ((strB x).toList == [112, 97, 105, 114]) = false := by rw [strB_toList, hx]; rfl
                have h4 : ((strB x).toList == [115, 104, 97, 114, 101]) = false := by rw [strB_toList, hx]; rfl
                have h5 : ((strB x).toList == [115, 105, 103, 110]) = false := by rw [strB_toList, hx]; rfl
                have h6 : ((strB x).toList == [115, 101, 97, 108]) = true := by rw [strB_toList, hx]; rfl
                clear hx n0 n1 n2 n3 n4 n5 n6
                go_enter Tryd.func42, Tryd.ntmps42
                go_wp2
                go_ret
                exact ⟨by rw [HC.out]; rfl, rfl⟩
              · have z6 := True.intro
                have HC := Lib.hid (show cnt x = 0 by unfold cnt numW; simp [n0, n1, n2, n3, n4, n5, n6])
                have h0 : ((strB x).toList == [104, 97, 115, 104]) = false := by rw [strB_toList, beq_eq_false_iff_ne]; exact n0
                have h1 : ((strB x).toList == [112, 111, 105, 110, 116]) = false := by rw [strB_toList, beq_eq_false_iff_ne]; exact n1
                have h2 : ((strB x).toList == [107, 101, 121]) = false := by rw [strB_toList, beq_eq_false_iff_ne]; exact n2
                have h3 : ((strB x).toList == [112, 97, 105, 114]) = false := by rw [strB_toList, beq_eq_false_iff_ne]; exact n3
                have h4 : ((strB x).toList == [115, 104, 97, 114, 101]) = false := by rw [strB_toList, beq_eq_false_iff_ne]; exact n4
                have h5 : ((strB x).toList == [115, 105, 103, 110]) = false := by rw [strB_toList, beq_eq_false_iff_ne]; exact n5
                have h6 : ((strB x).toList == [115, 101, 97, 108]) = false := by rw [strB_toList, beq_eq_false_iff_ne]; exact n6
                clear n0 n1 n2 n3 n4 n5 n6
                go_enter Tryd.func42, Tryd.ntmps42
                go_wp2
                go_ret
                exact ⟨by rw [HC.out]; rfl, rfl⟩
section
variable {P : Program}
/-- append at elements of any size -/
theorem run_appN (w : World) (t ty : TypeId) {E : TypeId} {z : Value} {sz by' : Nat} (ht : P.underlying t = some (.slice E)) (hI : (P.info? E).map (fun i => (i.zero, i.size, i.bytes)) = some (some z, sz, by')) (hz : z.cells.size = sz) (hsz : 0 < sz) (hby : 0 < by')
    {B n : Nat} {v : Value} {xs : List Value} (hO : w.ownsRow B E sz v n xs) {ad : Addr} {m c : Nat} {ys : List Value} (hm : ys.length = m * sz) (hR : Rd w (some ad) ys) (h1 : ∀ u ∈ ys, u.oneCell' = true)
    (hb : (n + m) * by' ≤ 140737488355328) (hB : B ≤ w.heap.size) :
    ∃ v' w', (Builtin.append_ #[t, t] ty #[v, .slice (some ad) m c]).run P w = .ok v' w' ∧ w'.ownsRow B E sz v' (n + m) (xs ++ ys) ∧ w.grownBy w' v.ownBlock ∧ (v'.ownBlock = v.ownBlock ∨ v'.ownBlock = some w.heap.size) := by
  obtain ⟨i, hi, hz0, hz1, hz2⟩ := info_parts hI
  have hmax : n + m ≤ maxLen := by
    have : n + m ≤ (n + m) * by' := Nat.le_mul_of_pos_right _ hby
    simp only [maxLen]; omega
  obtain ⟨v', w', hr, ho, hg, _, hat⟩ := run_append_own_at (P := P) w B t ty E i z sz by' ht hi hz0 hz1 hz2 hz hsz v n xs hO ad m c ys hm (fun j u hu => by
    obtain ⟨b, o, e, _, hc⟩ := hR j u hu
    obtain rfl : ad = ⟨b, o, none⟩ := Option.some.inj e
    have hadd : (⟨b, o, none⟩ : Addr).add j = ⟨b, o + j, none⟩ := by unfold Addr.add; split <;> simp_all
    rw [hadd]; exact hc) h1 hmax hb hB
  exact ⟨v', w', hr, ho, hg, hat⟩
theorem appN {ops : Array Oper} {rest : List Oper} {o : Oper} {a : Act} {w : World} {Q : Exit → Act → World → Prop} (hgd : o.guard = none) (s x : Operand) (t : TypeId)
    (ho : o.op = .call { callee := .builtin .append, args := #[s, x], argTypes := #[t, t] }) {E : TypeId} {z : Value} {sz by' : Nat} (ht : P.underlying t = some (.slice E))
    (hI : (P.info? E).map (fun i => (i.zero, i.size, i.bytes)) = some (some z, sz, by')) (hz : z.cells.size = sz) (hsz : 0 < sz) (hby : 0 < by')
    {B n : Nat} {v : Value} {xs : List Value} (hO : w.ownsRow B E sz v n xs) (hs : a.eval s = v) {ad : Addr} {m c : Nat} {ys : List Value} (hx : a.eval x = .slice (some ad) m c) (hm : ys.length = m * sz) (hR : Rd w (some ad) ys) (h1 : ∀ u ∈ ys, u.oneCell' = true)
    (hb : (n + m) * by' ≤ 140737488355328) (hB : B ≤ w.heap.size)
    (h : ∀ v' w', w'.ownsRow B E sz v' (n + m) (xs ++ ys) → w.grownBy w' v.ownBlock → (v'.ownBlock = v.ownBlock ∨ v'.ownBlock = some w.heap.size) → wpList P ops Q rest (a.put o.dst v') w') : wpList P ops Q (o :: rest) a w :=
  wpList_plain hgd fun _ hK => by
    obtain ⟨v', w', hr, h2, h3, h4⟩ := run_appN (P := P) w t o.type ht hI hz hsz hby hO (c := c) hm hR h1 hb hB
    unfold Oper.wp execOp
    simp only [ho, resolve, invoke, builtin, Sem.run_bind, Sem.run_pure, Result.andThen_ok, List.map_toArray, List.map_cons, List.map_nil, hs, hx, hr]
    exact hK _ _ (h v' w' h2 h3 h4)
end
theorem rangeAt_append {w : World} {b o : Nat} {x y : List Value} : w.rangeAt b o (x ++ y) ↔ w.rangeAt b o x ∧ w.rangeAt b (o + x.length) y := by
  constructor
  · intro h
    refine ⟨fun j v hv => h j v ?_, fun j v hv => ?_⟩
    · rw [List.getElem?_append_left (List.getElem?_eq_some_iff.1 hv).1]; exact hv
    · have := h (x.length + j) v (by rw [List.getElem?_append_right (by omega), show x.length + j - x.length = j by omega]; exact hv)
      rw [← Nat.add_assoc] at this; exact this
  · rintro ⟨h1, h2⟩ j v hv
    by_cases hj : j < x.length
    · rw [List.getElem?_append_left hj] at hv; exact h1 j v hv
    · rw [List.getElem?_append_right (by omega)] at hv
      have := h2 _ v hv
      rw [show o + x.length + (j - x.length) = o + j by omega] at this; exact this
theorem grown_setCells (b : Nat) : ∀ (vs : List Value) (o : Nat) (w : World), w.grownBy (w.setCells b o vs) (some b)
  | [], _, w => World.grownBy.refl w _
  | v :: r, o, w => by
    rw [World.setCells]
    have g1 := Cl.grown_setCell w b o v
    have g2 := grown_setCells b r (o + 1) (w.setCell ⟨b, o, none⟩ v)
    exact ⟨g2.os.trans g1.os, g2.tape.trans g1.tape, g2.output.trans g1.output, Nat.le_trans g1.size g2.size, fun k hk hne => (g2.block k (Nat.lt_of_lt_of_le hk g1.size) hne).trans (g1.block k hk hne)⟩
theorem infoT : (Tryd.prog.info? 31).map (fun i => (i.zero, i.size, i.bytes)) = some (some (.agg #[.string ⟨#[]⟩, .string ⟨#[]⟩, .slice none 0 0]), 3, 56) := by kernel_rfl
theorem infoS : (Tryd.prog.info? 9).map (fun i => (i.zero, i.size, i.bytes)) = some (some (.string ⟨#[]⟩), 1, 16) := by kernel_rfl
theorem tcs_oneCell : ∀ (l : List (Tm × Value)), (∀ x ∈ l, x.2.oneCell' = true) → ∀ u ∈ tcs l, u.oneCell' = true
  | [], _ => by rw [tcs_nil]; intro u hu; simp at hu
  | x :: l, h => by
    rw [show x :: l = [x] ++ l from rfl, tcs_append, tcs_one]
    intro u hu
    rcases List.mem_append.1 hu with hu | hu
    · unfold tcl at hu
      simp at hu
      rcases hu with rfl | rfl | rfl
      · rfl
      · rfl
      · exact h x (by simp)
    · exact tcs_oneCell l (fun y hy => h y (by simp [hy])) u hu
theorem zip_tp {Q : Tm → Value → Prop} {l : List Tm} {ps : List Value} (h : ∀ (j : Nat) t p, l[j]? = some t → ps[j]? = some p → Q t p) : ∀ x ∈ l.zip ps, Q x.1 x.2 := fun x hx => by
  obtain ⟨j, hj⟩ := List.mem_iff_getElem?.1 hx
  rw [List.getElem?_zip_eq_some] at hj
  exact h j _ _ hj.1 hj.2
set_option maxRecDepth 20000 in
set_option maxHeartbeats 1000000 in
/-- a copy of one's own -/
theorem TClone_any {Q : Tm → Value → Prop} (hQ : ∀ t p, Q t p → p.oneCell' = true) (w : World) (v : Value) (l : List Tm) (h : TS Q w v l) (hl : l.length ≤ 1000) :
    Calls Tryd.prog 41 #[v] w fun e w' => ∃ v' ps, e = .returned v' ∧ ps.length = l.length ∧ w'.ownsRow w.heap.size 31 3 v' l.length (tcs (l.zip ps)) ∧ (∀ (j : Nat) t p, l[j]? = some t → ps[j]? = some p → Q t p) ∧ Below w.heap.size w w' := by
  obtain ⟨A, c, ps, rfl, hc, hm, hps, hR, hT⟩ := h
  have hzl : (l.zip ps).length = l.length := by rw [List.length_zip, hps]; exact Nat.min_self _
  cases A with
  | none =>
    have hl0 : l = [] := by
      cases l with
      | nil => rfl
      | cons x l =>
        have hp : 0 < (tcs ((x :: l).zip ps)).length := by rw [tcs_length, hzl]; simp
        obtain ⟨b, o, e, _⟩ := hR 0 _ (List.getElem?_eq_getElem hp)
        cases e
    subst hl0
    have he := Lib.run_eql_slice_nil (P := Tryd.prog) w 29 31 none 0 c 0 0 Tryd.underlying29
    go_enter Tryd.func41, Tryd.ntmps41
    go_wp2
    go_ret
    exact ⟨_, [], rfl, rfl, by rw [List.zip_nil_left, tcs_nil]; exact World.ownsRow_nil _ _ _ _, fun j t p h => by simp at h, Below.refl _ _⟩
  | some ad =>
    have HR := Lib.hid hR
    have HZ := Lib.hid hzl
    have HN := Lib.hid (show (tcs (l.zip ps)).length = l.length * 3 by rw [tcs_length, hzl])
    have HL := Lib.hid hl
    have HT := Lib.hid hT
    have HONE := Lib.hid (tcs_oneCell _ (fun x hx => hQ _ _ (zip_tp hT x hx)))
    have HPS := Lib.hid hps
    have he := Lib.run_eql_slice_nil (P := Tryd.prog) w 29 31 (some ad) l.length c 0 0 Tryd.underlying29
    have HO := Lib.hid (show (w.alloc (.cells #[] 31)).ownsRow w.heap.size 31 3 (.slice (some ⟨w.heap.size, 0, none⟩) 0 0) 0 [] from World.ownsRow_lit (base := w.heap.size) (e := 31) (size := 3) w #[] 0 (Nat.le_refl _) (Nat.zero_le _) (by simp))
    have HB := Lib.hid (show Below w.heap.size w (w.alloc (.cells #[] 31)) from (Below.refl _ _).alloc (Nat.le_refl _) _)
    clear hR hc hm hl hT hzl hps
    go_enter Tryd.func41, Tryd.ntmps41
    go_wp2_with (refine appN rfl _ _ 29 rfl Tryd.underlying29 infoT rfl (by decide) (by decide) HO.out rfl rfl HN.out (HR.out.below HB.out) HONE.out (by have := HL.out; omega) HB.out.size ?_; intro v' w' h2 h3 h4; have H2 := Lib.hid h2; have H3 := Lib.hid h3; clear h2 h3 h4)
    go_ret
    have hb : Below w.heap.size w w' := HB.out.grown H3.out HB.out.size (fun k hk => by cases hk; exact Nat.le_refl _)
    refine ⟨_, ps, rfl, HPS.out, ?_, HT.out, hb⟩
    have := H2.out
    rwa [Nat.zero_add, List.nil_append] at this
end Go.Proofs.YtfcemnebhapidaaDoor.Te
