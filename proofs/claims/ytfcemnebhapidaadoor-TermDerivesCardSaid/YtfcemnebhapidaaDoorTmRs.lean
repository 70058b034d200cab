/- The reference's Split. -/
import Derived.Test.YtfcemnebhapidaaDoorTmSc
import Derived.Test.YtfcemnebhapidaaDoorTmMem
set_option linter.unusedVariables false
set_option linter.unusedSimpArgs false
namespace Go.Proofs.YtfcemnebhapidaaDoor.Te
open Go.RowKit Go.Proofs.YtfcemnebhapidaaDoor.Ow
theorem get_listS (s : ByteArray) (k : Nat) (h : k < s.size) : s.data.toList[k]? = some s[k] := by rw [List.getElem?_eq_getElem (by rw [Array.length_toList]; exact h)]; rfl
theorem drop_consS {l : List UInt8} {k : Nat} {x : UInt8} (h : l[k]? = some x) : l.drop k = x :: l.drop (k + 1) := by
  obtain ⟨hk, e⟩ := List.getElem?_eq_some_iff.1 h
  rw [List.drop_eq_getElem_cons hk, e]
theorem ext_mid (S : ByteArray) (b k : Nat) : S.extract b k = strB ((S.data.toList.drop b).take (k - b)) := by
  apply ByteArray.ext
  apply Array.toList_inj.1
  simp only [strB, ByteArray.data_extract, Array.toList_extract, List.extract_eq_take_drop]
/-- on the way through the parts -/
structure SpI (s M : List UInt8) (at_ k : Nat) (d : Int) (b : Nat) (out : List (List UInt8)) : Prop where
  eq : sc M 0 [] = out ++ sc (s.drop k).dropLast d ((s.drop b).take (k - b))
  bk : b ≤ k
  ab : at_ + 1 ≤ b
  le : k + 1 ≤ s.length ∨ (k = s.length ∧ b = s.length)
  lo : - (k : Int) ≤ d
  hi : d ≤ k
  len : out.length ≤ k
theorem SpI.start {s : List UInt8} {k : Nat} (hk : k < s.length) : SpI s (s.drop (k + 1)).dropLast k (k + 1) 0 (k + 1) [] := by
  refine ⟨by simp, Nat.le_refl _, Nat.le_refl _, by omega, by omega, by omega, Nat.zero_le _⟩
theorem SpI.next {s M : List UInt8} {a k b : Nat} {d : Int} {out : List (List UInt8)} (h : SpI s M a k d b out) {x : UInt8} (hx : s[k]? = some x) (hk : k + 1 < s.length) (hn : ¬ (x = 44 ∧ d = 0)) {d' : Int} (hd : d' = if x = 40 then d + 1 else if x = 41 then d - 1 else d) : SpI s M a (k + 1) d' b out := by
  obtain ⟨h1, h2, h3, h4, h5, h6, h7⟩ := h
  have hd' : d' = d + 1 ∨ d' = d - 1 ∨ d' = d := by
    rw [hd]; split
    · exact .inl rfl
    · split
      · exact .inr (.inl rfl)
      · exact .inr (.inr rfl)
  refine ⟨?_, by omega, h3, by omega, by omega, by omega, by omega⟩
  rw [h1, drop_consS hx]
  have hne : s.drop (k + 1) ≠ [] := by
    intro e
    have := congrArg List.length e
    rw [List.length_drop] at this
    simp at this; omega
  rw [List.dropLast_cons_of_ne_nil hne, sc, if_neg hn, ← hd]
  have e : (s.drop b).take (k + 1 - b) = (s.drop b).take (k - b) ++ [x] := by
    rw [show k + 1 - b = (k - b) + 1 by omega, List.take_add_one, List.getElem?_drop, show b + (k - b) = k by omega, hx]; rfl
  rw [e]
theorem SpI.cut {s M : List UInt8} {a k b : Nat} {out : List (List UInt8)} (h : SpI s M a k 0 b out) (hx : s[k]? = some 44) (hk : k + 1 < s.length) : SpI s M a (k + 1) 0 (k + 1) (out ++ [(s.drop b).take (k - b)]) := by
  obtain ⟨h1, h2, h3, h4, h5, h6, h7⟩ := h
  refine ⟨?_, by omega, by omega, by omega, by omega, by omega, by simp; omega⟩
  rw [h1, drop_consS hx]
  have hne : s.drop (k + 1) ≠ [] := by
    intro e
    have := congrArg List.length e
    rw [List.length_drop] at this
    simp at this; omega
  rw [List.dropLast_cons_of_ne_nil hne, sc, if_pos ⟨rfl, rfl⟩]
  simp
theorem SpI.fin {s M : List UInt8} {a k b : Nat} {d : Int} {out : List (List UInt8)} (h : SpI s M a k d b out) (hk : ¬ k + 1 < s.length) : sc M 0 [] = out ++ [(s.drop b).take (k - b)] ∧ (b < s.length → k = s.length - 1) ∧ (¬ b < s.length → k - b = 0) := by
  obtain ⟨h1, h2, h3, h4, h5, h6, h7⟩ := h
  refine ⟨?_, fun h => by omega, fun h => by omega⟩
  rw [h1]
  have e : (s.drop k).dropLast = [] := by
    apply List.eq_nil_of_length_eq_zero
    rw [List.length_dropLast, List.length_drop]; omega
  rw [e]; unfold sc; rfl
/-- no bracket opens in front of k -/
def noTo (l : List UInt8) (k : Nat) : Prop := ∀ j x, j < k → l[j]? = some x → x ≠ 40
theorem noTo.next {l : List UInt8} {k : Nat} {x : UInt8} (h : noTo l k) (hx : l[k]? = some x) (ho : x ≠ 40) : noTo l (k + 1) := fun j y hj hy => by
  by_cases e : j = k
  · subst e; rw [hx] at hy; cases hy; exact ho
  · exact h j y (by omega) hy
theorem noTo.take {l : List UInt8} {k : Nat} (h : noTo l k) : (40 : UInt8) ∉ l.take k := fun hm => by
  obtain ⟨j, hj⟩ := List.getElem?_of_mem hm
  rw [List.getElem?_take] at hj
  split at hj
  · exact h j 40 (by assumption) hj rfl
  · cases hj
theorem noTo.all {l : List UInt8} (h : noTo l l.length) : (40 : UInt8) ∉ l := by have := h.take; rwa [List.take_length] at this
theorem noTo.spl {l : List UInt8} {k : Nat} (h : noTo l k) (hx : l[k]? = some 40) : spl l = (l.take k, sc (l.drop (k + 1)).dropLast 0 []) := by
  have e : l = l.take k ++ 40 :: l.drop (k + 1) := by rw [← drop_consS hx, List.take_append_drop]
  have := spl_at h.take (l.drop (k + 1))
  rw [← e] at this
  exact this
theorem snocS (out : List (List UInt8)) (x : List UInt8) : out.map encStr ++ [Value.string (strB x)] = (out ++ [x]).map encStr := by rw [List.map_append]; rfl
theorem own_grown {w w1 w2 : World} {E : TypeId} {v : Value} {xs : List Value} (h : Below w.heap.size w w1) (ho : Owns w1 w.heap.size E v xs) (hg : w1.grownBy w2 v.ownBlock) : Below w.heap.size w w2 :=
  Below.grown h hg h.size (fun k hk => (ho.lt k hk).1)
/-- the world as it was -/
def SameW (w w' : World) : Prop := w = w'
def SpInv (S : ByteArray) (w : World) (a : Nat) (v dv bv i : Value) (wr : World) : Prop := ∃ (k : Nat) (d : Int) (b : Nat) (out : List (List UInt8)), i = .int .i64 k ∧ dv = .int .i64 d ∧ bv = .int .i64 b ∧ SpI S.data.toList (S.data.toList.drop (a + 1)).dropLast a k d b out ∧ Owns wr w.heap.size 9 v (out.map encStr) ∧ Below w.heap.size w wr
set_option maxRecDepth 20000 in
set_option maxHeartbeats 4000000 in
theorem RSplit_any (w : World) (S : ByteArray) (hs : S.size ≤ 100000) :
    Calls Tryd.prog 18 #[.string S] w fun e w' => ∃ v, e = .returned (.tuple #[.string (strB (spl S.data.toList).1), v]) ∧ Owns w' w.heap.size 9 v ((spl S.data.toList).2.map encStr) ∧ Below w.heap.size w w' := by
  have HL := Lib.hid (show S.data.toList.length = S.size from Array.length_toList)
  go_enter Tryd.func18, Tryd.ntmps18
  go_wp2
  go_loopw [4] (fun i wr => ∃ k : Nat, k ≤ S.size ∧ i = .int .i64 k ∧ noTo S.data.toList k ∧ SameW w wr) (fun i _ => S.size - (intOf i).toNat)
  case atStart => exact ⟨0, Nat.zero_le _, rfl, fun j x hj => by omega, (rfl : w = w)⟩
  case round =>
    obtain ⟨k, hk, rfl, hno, hsw⟩ := hrel
    obtain rfl : w = wr := hsw
    have HNO := Lib.hid hno
    clear hno
    by_cases hlt : k < S.size
    · have hik : (k : Int) < S.size := by omega
      have hdl : decide ((k : Int) < (S.size : Int)) = true := by rw [decide_eq_true_iff]; omega
      have HX := Lib.hid (get_listS S k hlt)
      by_cases hx : S[k] = 40
      · have hxn : S[k].toNat = 40 := by rw [hx]; rfl
        have hne : ((S[k].toNat : Int) != 40) = false := by rw [bne_eq_false_iff_eq]; omega
        have HSPL := Lib.hid (HNO.out.spl (hx ▸ HX.out))
        have hkn : ((k : Int) == (S.size : Int)) = false := by rw [beq_eq_false_iff_ne]; omega
        have HST := Lib.hid (SpI.start (s := S.data.toList) (k := k) (by rw [HL.out]; exact hlt))
        clear hx hxn
        go_wp2_with fail
        obtain ⟨a, ha⟩ : ∃ a, a = k := ⟨k, rfl⟩
        subst ha
        have hbA : Below w.heap.size w (w.alloc (.cells #[] 9)) := (Below.refl _ _).alloc (Nat.le_refl _) _
        have HON := Lib.hid (Owns.new w w.heap.size 9 [] (Nat.le_refl _) (by decide))
        have HBA := Lib.hid hbA
        clear hbA hne hkn
        go_loopw [5, 6, 7, 8] (fun v dv bv i wr => SpInv S w a v dv bv i wr) (fun _ _ _ i _ => 200002 - (intOf i).toNat)
        case atStart => exact ⟨a + 1, 0, a + 1, [], rfl, rfl, rfl, HST.out, HON.out, HBA.out⟩
        case round =>
          obtain ⟨k, d, b, out, rfl, rfl, rfl, hsp, hO, hB⟩ := hrel
          have HSP := Lib.hid hsp
          have HO := Lib.hid hO
          have HB := Lib.hid hB
          have HSB := Lib.hid hB.size
          have HOL := Lib.hid (show out.length ≤ 100001 by have h1 := hsp.len; have h2 := hsp.le; have h3 := HL.out; omega)
          have hbk : b ≤ k := hsp.bk
          have hkb : k ≤ S.size := by have h2 := hsp.le; have h3 := HL.out; omega
          have hdlo : -200000 ≤ d := by have := hsp.lo; omega
          have hdhi : d ≤ 200000 := by have := hsp.hi; omega
          clear hsp hO hB HST HON HBA
          by_cases hlt2 : k + 1 < S.size
          · have hd1 : decide ((k : Int) + 1 < (S.size : Int)) = true := by rw [decide_eq_true_iff]; omega
            have hd2 : decide (k + 1 < S.size) = true := by rw [decide_eq_true_iff]; omega
            have hk1 : (k : Int) < S.size := by omega
            have hk2 : k < S.size := by omega
            have HX2 := Lib.hid (get_listS S k hk2)
            have HK2 := Lib.hid (show k + 1 < S.data.toList.length by rw [HL.out]; exact hlt2)
            by_cases h40 : S[k] = 40
            · have hn : S[k].toNat = 40 := by rw [h40]; rfl
              have he40 : ((S[k].toNat : Int) == 40) = true := by rw [beq_iff_eq]; omega
              have he41 : ((S[k].toNat : Int) == 41) = false := by rw [beq_eq_false_iff_ne]; omega
              have he44 : ((S[k].toNat : Int) == 44) = false := by rw [beq_eq_false_iff_ne]; omega
              have HN := Lib.hid (HSP.out.next HX2.out HK2.out (fun e => absurd (h40 ▸ e.1) (by decide)) (d' := d + 1) (by rw [if_pos h40]))
              clear h40 hn
              go_wp2_with fail
              go_roundw
              case rel =>
                have REL := Lib.hid (show SpInv S w a _ (.int .i64 (d + 1)) (.int .i64 ((b : Int))) (.int .i64 ((k : Int) + 1)) wr from ⟨k + 1, d + 1, b, out, rfl, rfl, rfl, HN.out, HO.out, HB.out⟩)
                first
                  | exact REL.out
                  | ((repeat apply Exists.intro); refine ⟨?_, rfl⟩; exact REL.out)
              case measure => (first | (simp [intOf]; done) | (simp [intOf]; omega))
            · have hn40 : S[k].toNat ≠ 40 := fun e => h40 (UInt8.toNat_inj.1 e)
              by_cases h41 : S[k] = 41
              · have hn : S[k].toNat = 41 := by rw [h41]; rfl
                have he40 : ((S[k].toNat : Int) == 40) = false := by rw [beq_eq_false_iff_ne]; omega
                have he41 : ((S[k].toNat : Int) == 41) = true := by rw [beq_iff_eq]; omega
                have he44 : ((S[k].toNat : Int) == 44) = false := by rw [beq_eq_false_iff_ne]; omega
                have HN := Lib.hid (HSP.out.next HX2.out HK2.out (fun e => absurd (h41 ▸ e.1) (by decide)) (d' := d - 1) (by rw [if_neg h40, if_pos h41]))
                clear h40 h41 hn hn40
                go_wp2_with fail
                go_roundw
                case rel =>
                  have REL := Lib.hid (show SpInv S w a _ (.int .i64 (d - 1)) (.int .i64 ((b : Int))) (.int .i64 ((k : Int) + 1)) wr from ⟨k + 1, d - 1, b, out, rfl, rfl, rfl, HN.out, HO.out, HB.out⟩)
                  first
                    | exact REL.out
                    | ((repeat apply Exists.intro); refine ⟨?_, rfl⟩; exact REL.out)
                case measure => (first | (simp [intOf]; done) | (simp [intOf]; omega))
              · have hn41 : S[k].toNat ≠ 41 := fun e => h41 (UInt8.toNat_inj.1 e)
                by_cases h44 : S[k] = 44
                · have hn : S[k].toNat = 44 := by rw [h44]; rfl
                  have he40 : ((S[k].toNat : Int) == 40) = false := by rw [beq_eq_false_iff_ne]; omega
                  have he41 : ((S[k].toNat : Int) == 41) = false := by rw [beq_eq_false_iff_ne]; omega
                  have he44 : ((S[k].toNat : Int) == 44) = true := by rw [beq_iff_eq]; omega
                  by_cases hd0 : d = 0
                  · subst hd0
                    have HN := Lib.hid (HSP.out.cut (h44 ▸ HX2.out) HK2.out)
                    have hb1 : (b : Int) ≤ k := by omega
                    have hb2 : (0 : Int) ≤ b := by omega
                    have hb3 : (k : Int) ≤ S.size := by omega
                    clear h40 h41 h44 hn hn40 hn41
                    go_wp2_with (refine app1 rfl _ _ 22 rfl (E := 9) (z := .string ⟨#[]⟩) (by' := 16) rfl rfl rfl (by decide) HO.out rfl rfl rfl (by rw [List.length_map]; have h1 := HOL.out; omega) HSB.out ?_; rw [ext_mid, snocS]; rintro v6 w6 h2 h3 h4; skip; have HO6 := Lib.hid h2; have HB6 := Lib.hid (own_grown HB.out HO.out h3); clear h2 h3 h4)
                    go_roundw
                    case rel =>
                      have REL := Lib.hid (show SpInv S w a _ (.int .i64 (0)) (.int .i64 ((k : Int) + 1)) (.int .i64 ((k : Int) + 1)) w6 from ⟨k + 1, 0, k + 1, _, rfl, rfl, rfl, HN.out, HO6.out, HB6.out⟩)
                      first
                        | exact REL.out
                        | ((repeat apply Exists.intro); refine ⟨?_, rfl⟩; exact REL.out)
                    case measure => (first | (simp [intOf]; done) | (simp [intOf]; omega))
                  · have hd00 : (d == 0) = false := by rw [beq_eq_false_iff_ne]; exact hd0
                    have HN := Lib.hid (HSP.out.next HX2.out HK2.out (fun e => hd0 e.2) (d' := d) (by rw [if_neg h40, if_neg h41]))
                    clear h40 h41 h44 hn hn40 hn41
                    go_wp2_with fail
                    go_roundw
                    case rel =>
                      have REL := Lib.hid (show SpInv S w a _ (.int .i64 (d)) (.int .i64 ((b : Int))) (.int .i64 ((k : Int) + 1)) wr from ⟨k + 1, d, b, out, rfl, rfl, rfl, HN.out, HO.out, HB.out⟩)
                      first
                        | exact REL.out
                        | ((repeat apply Exists.intro); refine ⟨?_, rfl⟩; exact REL.out)
                    case measure => (first | (simp [intOf]; done) | (simp [intOf]; omega))
                · have hn44 : S[k].toNat ≠ 44 := fun e => h44 (UInt8.toNat_inj.1 e)
                  have he40 : ((S[k].toNat : Int) == 40) = false := by rw [beq_eq_false_iff_ne]; omega
                  have he41 : ((S[k].toNat : Int) == 41) = false := by rw [beq_eq_false_iff_ne]; omega
                  have he44 : ((S[k].toNat : Int) == 44) = false := by rw [beq_eq_false_iff_ne]; omega
                  have HN := Lib.hid (HSP.out.next HX2.out HK2.out (fun e => h44 e.1) (d' := d) (by rw [if_neg h40, if_neg h41]))
                  clear h40 h41 h44 hn40 hn41 hn44
                  go_wp2_with fail
                  go_roundw
                  case rel =>
                    have REL := Lib.hid (show SpInv S w a _ (.int .i64 (d)) (.int .i64 ((b : Int))) (.int .i64 ((k : Int) + 1)) wr from ⟨k + 1, d, b, out, rfl, rfl, rfl, HN.out, HO.out, HB.out⟩)
                    first
                      | exact REL.out
                      | ((repeat apply Exists.intro); refine ⟨?_, rfl⟩; exact REL.out)
                  case measure => (first | (simp [intOf]; done) | (simp [intOf]; omega))
          · have hd1 : decide ((k : Int) + 1 < (S.size : Int)) = false := by rw [decide_eq_false_iff_not]; omega
            have hd2 : decide (k + 1 < S.size) = false := by rw [decide_eq_false_iff_not]; omega
            obtain ⟨hf1, hf2, hf3⟩ := HSP.out.fin (by rw [HL.out]; exact hlt2)
            rw [HL.out] at hf2 hf3
            have HF := Lib.hid hf1
            clear hf1
            by_cases hbs : b < S.size
            · have hb0 : decide (b < S.size) = true := by rw [decide_eq_true_iff]; exact hbs
              have hb00 : decide ((b : Int) < S.size) = true := by rw [decide_eq_true_iff]; omega
              have hkz : (S.size : Int) - 1 = (k : Int) := by have := hf2 hbs; omega
              have hb1 : (b : Int) ≤ k := by omega
              have hb2 : (0 : Int) ≤ b := by omega
              have hb3 : (k : Int) ≤ S.size := by omega
              clear hf2 hf3
              go_wp2_with (refine app1 rfl _ _ 22 rfl (E := 9) (z := .string ⟨#[]⟩) (by' := 16) rfl rfl rfl (by decide) HO.out rfl rfl rfl (by rw [List.length_map]; have h1 := HOL.out; omega) HSB.out ?_; rw [ext_mid, snocS]; rintro v6 w6 h2 h3 h4; skip; have HO6 := Lib.hid h2; have HB6 := Lib.hid (own_grown HB.out HO.out h3); clear h2 h3 h4)
              refine bodyPost_ret (v := .tuple #[.string (S.extract 0 a), v6]) (by simp [results, Tryd.results18, go_sem]) rfl ?_
              refine ⟨v6, ?_, ?_, HB6.out⟩
              · rw [HSPL.out, ext_take]
              · rw [HSPL.out, HF.out]; exact HO6.out
            · have hb0 : decide (b < S.size) = false := by rw [decide_eq_false_iff_not]; exact hbs
              have hb00 : decide ((b : Int) < S.size) = false := by rw [decide_eq_false_iff_not]; omega
              have HFE := Lib.hid (show out ++ [(S.data.toList.drop b).take (k - b)] = out ++ [[]] by rw [hf3 hbs]; simp)
              clear hf2 hf3
              go_wp2_with (refine app1 rfl _ _ 22 rfl (E := 9) (z := .string ⟨#[]⟩) (by' := 16) rfl rfl rfl (by decide) HO.out rfl rfl rfl (by rw [List.length_map]; have h1 := HOL.out; omega) HSB.out ?_; rw [show Value.string ⟨#[]⟩ = Value.string (strB []) from rfl, snocS]; rintro v6 w6 h2 h3 h4; skip; have HO6 := Lib.hid h2; have HB6 := Lib.hid (own_grown HB.out HO.out h3); clear h2 h3 h4)
              refine bodyPost_ret (v := .tuple #[.string (S.extract 0 a), v6]) (by simp [results, Tryd.results18, go_sem]) rfl ?_
              refine ⟨v6, ?_, ?_, HB6.out⟩
              · rw [HSPL.out, ext_take]
              · rw [HSPL.out, HF.out, HFE.out]; exact HO6.out
      · have hxn : S[k].toNat ≠ 40 := fun e => hx (UInt8.toNat_inj.1 e)
        have hne : ((S[k].toNat : Int) != 40) = true := by rw [bne_iff_ne]; omega
        have HN := Lib.hid (HNO.out.next HX.out hx)
        clear hx hxn
        go_wp2
        go_roundw
        case rel =>
          have REL := Lib.hid (show ∃ k' : Nat, k' ≤ S.size ∧ Value.int .i64 ((k : Int) + 1) = .int .i64 k' ∧ noTo S.data.toList k' ∧ SameW w w from ⟨k + 1, hlt, rfl, HN.out, (rfl : w = w)⟩)
          first
            | exact REL.out
            | ((repeat apply Exists.intro); refine ⟨?_, rfl⟩; exact REL.out)
        case measure => (first | (simp [intOf]; done) | (simp [intOf]; omega))
    · obtain rfl : k = S.size := by omega
      have hdl : decide ((S.size : Int) < (S.size : Int)) = false := by simp
      have HSP := Lib.hid (spl_no (HL.out ▸ HNO.out).all)
      go_wp2
      refine bodyPost_ret (v := .tuple #[.string ⟨#[97, 116, 111, 109]⟩, .slice none 0 0]) (by simp [results, Tryd.results18, go_sem]) rfl ?_
      refine ⟨.slice none 0 0, ?_, ?_, Below.refl _ _⟩
      · rw [HSP.out]; rfl
      · rw [HSP.out]; exact Owns.nil _ _ _
end Go.Proofs.YtfcemnebhapidaaDoor.Te
