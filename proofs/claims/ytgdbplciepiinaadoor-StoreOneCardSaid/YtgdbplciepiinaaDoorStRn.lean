/- The reference's Names. -/
import Derived.Test.YtgdbplciepiinaaDoorStRf
import Derived.Test.YtgdbplciepiinaaDoorStAdd
import Derived.Test.YtgdbplciepiinaaDoorStTen
import Derived.Sort.Walk0
set_option linter.unusedVariables false
set_option linter.unusedSimpArgs false
namespace Go.Proofs.YtgdbplciepiinaaDoor.St
open Go.RowKit Go.Proofs.YtgdbplciepiinaaDoor.Ow Go.Proofs.YtgdbplciepiinaaDoor.Cv
/-- a name put among rising ones, once -/
def insN : List (List UInt8) → List UInt8 → List (List UInt8)
  | [], t => [t]
  | x :: l, t => if x < t then x :: insN l t else if x = t then x :: l else t :: x :: l
theorem insN_at : ∀ (out : List (List UInt8)) (k : Nat) (t : List UInt8), (∀ i x, i < k → out[i]? = some x → x < t) → (∀ x, out[k]? = some x → ¬ x < t) → k ≤ out.length → insN out t = if out[k]? = some t then out else out.take k ++ t :: out.drop k
  | [], k, t, _, _, h => by
    obtain rfl : k = 0 := by simpa using h
    simp [insN]
  | x :: l, 0, t, _, h2, _ => by
    have hx := h2 x rfl
    unfold insN
    rw [if_neg hx]
    by_cases e : x = t
    · rw [if_pos e, if_pos (by simp [e])]
    · rw [if_neg e, if_neg (by simpa using e)]; rfl
  | x :: l, k + 1, t, h1, h2, h3 => by
    have hx := h1 0 x (by omega) rfl
    unfold insN
    rw [if_pos hx, insN_at l k t (fun i y hi hy => h1 (i + 1) y (by omega) (by simpa using hy)) (fun y hy => h2 y (by simpa using hy)) (by simpa using h3)]
    rw [List.getElem?_cons_succ]
    split
    · rfl
    · rfl
theorem mem_insN {x t : List UInt8} : ∀ l, x ∈ insN l t ↔ x = t ∨ x ∈ l
  | [] => by simp [insN]
  | y :: l => by
    unfold insN
    split
    · rw [List.mem_cons, mem_insN l, List.mem_cons]
      exact ⟨fun h => h.elim (fun e => .inr (.inl e)) (fun h => h.elim .inl (fun e => .inr (.inr e))), fun h => h.elim (fun e => .inr (.inl e)) (fun h => h.elim .inl (fun e => .inr (.inr e)))⟩
    · split
      · rename_i e
        rw [List.mem_cons]
        exact ⟨.inr, fun h => h.elim (fun h => .inl (h.trans e.symm)) id⟩
      · rw [List.mem_cons]
theorem length_insN (t : List UInt8) : ∀ l, (insN l t).length ≤ l.length + 1
  | [] => by simp [insN]
  | y :: l => by
    have := length_insN t l
    unfold insN
    split
    · simp; omega
    · split <;> simp
theorem lt_of_not {x t : List UInt8} (h1 : ¬ x < t) (h2 : ¬ x = t) : t < x := by
  exact Decidable.byContradiction fun h => h2 (List.le_antisymm (List.not_lt.1 h) (List.not_lt.1 h1))
theorem insN_lt {t : List UInt8} : ∀ {l : List (List UInt8)}, l.Pairwise (· < ·) → (insN l t).Pairwise (· < ·)
  | [], _ => by simp [insN]
  | x :: l, h => by
    obtain ⟨h1, h2⟩ := List.pairwise_cons.1 h
    unfold insN
    split
    · rename_i hx
      refine List.pairwise_cons.2 ⟨fun y hy => ?_, insN_lt h2⟩
      rcases (mem_insN l).1 hy with rfl | hy
      · exact hx
      · exact h1 y hy
    · rename_i hx
      split
      · exact h
      · rename_i he
        refine List.pairwise_cons.2 ⟨fun y hy => ?_, h⟩
        have ht := lt_of_not hx he
        rcases List.mem_cons.1 hy with rfl | hy
        · exact ht
        · exact List.lt_trans ht (h1 y hy)
def namesN (L : List Pr) : List (List UInt8) := L.foldl (fun o p => insN o p.1) []
theorem namesN_take {L : List Pr} {j : Nat} {p : Pr} (hp : L[j]? = some p) : namesN (L.take (j + 1)) = insN (namesN (L.take j)) p.1 := by
  have hj := (List.getElem?_eq_some_iff.1 hp).1
  unfold namesN
  rw [List.take_succ_eq_append_getElem hj, (List.getElem?_eq_some_iff.1 hp).2, List.foldl_append]
  rfl
theorem namesN_all (L : List Pr) : (namesN L).Pairwise (· < ·) ∧ (namesN L).length ≤ L.length ∧ ∀ x, x ∈ namesN L ↔ x ∈ L.map (·.1) := by
  have key : ∀ (L : List Pr) (o : List (List UInt8)), o.Pairwise (· < ·) → (L.foldl (fun o p => insN o p.1) o).Pairwise (· < ·) ∧ (L.foldl (fun o p => insN o p.1) o).length ≤ o.length + L.length ∧ ∀ x, x ∈ L.foldl (fun o p => insN o p.1) o ↔ x ∈ o ∨ x ∈ L.map (·.1) := by
    intro L
    induction L with
    | nil => intro o h; exact ⟨h, Nat.le_refl _, fun x => by simp⟩
    | cons p L ih =>
      intro o h
      obtain ⟨i1, i2, i3⟩ := ih _ (insN_lt (t := p.1) h)
      refine ⟨i1, ?_, fun x => ?_⟩
      · have := length_insN p.1 o
        rw [List.foldl_cons, List.length_cons]; omega
      · rw [List.foldl_cons, i3, mem_insN, List.map_cons, List.mem_cons]
        exact ⟨fun h => h.elim (fun h => h.elim (fun e => .inr (.inl e)) .inl) (fun e => .inr (.inr e)), fun h => h.elim (fun h => .inl (.inr h)) (fun h => h.elim (fun e => .inl (.inl e)) .inr)⟩
  obtain ⟨h1, h2, h3⟩ := key L [] List.Pairwise.nil
  exact ⟨h1, by unfold namesN; simpa using h2, fun x => by unfold namesN; rw [h3 x]; simp⟩
theorem namesN_eq (L : List Pr) : namesN L = namesL L := by
  obtain ⟨h1, _, h3⟩ := namesN_all L
  have hnd : (namesN L).Nodup := List.Pairwise.imp (R := (· < ·)) (S := (· ≠ ·)) (fun {a b} h e => List.lt_irrefl b (by rw [e] at h; exact h)) h1
  have hp : (namesN L).Perm (tens L) := (List.perm_ext_iff_of_nodup hnd (nodup_tens L)).2 fun x => by
    rw [h3]; unfold tens; rw [mem_ddup]
  unfold namesL
  rw [← mergeSort_of_perm hp, List.mergeSort_of_pairwise]
  exact h1.imp (fun h => by simpa [leB] using List.le_of_lt h)
theorem Only.belowOf {g : Nat} {w Z W : World} (h : Below w.heap.size w Z) (hu : Only Z g W) (hg : w.heap.size ≤ g) : Below w.heap.size w W :=
  ⟨hu.os.trans h.os, hu.tape.trans h.tape, hu.output.trans h.output, Nat.le_trans h.size hu.size, fun k hk => (hu.block k (Nat.lt_of_lt_of_le hk h.size) (by simp; omega)).trans (h.block k hk)⟩
theorem infoS : (Tryd.prog.info? 9).map (fun i => (i.zero, i.size, i.bytes)) = some (some (.string ⟨#[]⟩), 1, 16) := by kernel_rfl
/-- an owned slice that is not nil, told -/
theorem owns_form {w : World} {B : Nat} {E : TypeId} {v : Value} {xs : List Value} (h : Owns w B E v xs) (hx : xs ≠ []) : ∃ g c, v = .slice (some ⟨g, 0, none⟩) xs.length c ∧ xs.length ≤ c ∧ c ≤ maxLen ∧ B ≤ g ∧ g < w.heap.size ∧ Rd w (some ⟨g, 0, none⟩) xs := by
  have h0 : w.ownsRow B E 1 v xs.length xs := h
  rcases h0.2 with ⟨hv, hn⟩ | ⟨g, cap, cur, hv, hB, hg, hc, hm, _⟩
  · exact absurd (List.eq_nil_of_length_eq_zero hn) hx
  · refine ⟨g, cap, hv, hc, hm, hB, (Array.getElem?_eq_some_iff.1 hg).1, fun j x hj => ⟨g, 0, rfl, (Array.getElem?_eq_some_iff.1 hg).1, ?_⟩⟩
    have := World.ownsRow.cells h0 (g := g) (by rw [hv]; rfl) j x hj
    have hadd : (⟨g, 0, none⟩ : Addr).add j = ⟨g, j, none⟩ := by unfold Addr.add; split <;> simp_all
    rw [hadd] at this
    rw [Nat.zero_add]; exact this
/-- the front of an owned slice -/
theorem owns_front {w : World} {B g c : Nat} {E : TypeId} {xs : List Value} (h : Owns w B E (.slice (some ⟨g, 0, none⟩) xs.length c) xs) {k : Nat} (hk : k ≤ xs.length) : Owns w B E (.slice (some ⟨g, 0, none⟩) k c) (xs.take k) := by
  have h0 : w.ownsRow B E 1 (.slice (some ⟨g, 0, none⟩) xs.length c) xs.length xs := h
  rcases h0.2 with ⟨hv, hn⟩ | ⟨g', cap, cur, hv, hB, hg, hc, hm, hs, ht⟩
  · cases hv
  · injection hv with e1 e2 e3
    injection e1 with e1
    injection e1 with e1
    subst e1 e3
    have hl : (xs.take k).length = k := by rw [List.length_take]; omega
    refine ⟨by simp, .inr ⟨g, c, cur, by rw [hl], hB, hg, by omega, hm, hs, ?_⟩⟩
    rw [hl, Nat.mul_one, ← ht, List.take_take]
    congr 1
    omega
/-- the back of a slice: where it lies -/
theorem slice_from (t : TypeId) (E : TypeId) (ht : Tryd.prog.underlying t = some (.slice E)) (hs : (Tryd.prog.info? E).map (·.size) = some 1) (g n c k : Nat) (hk : k ≤ n) (hc : n ≤ c) :
    ∃ ad, (∀ W, (Instr.slice t (.slice (some ⟨g, 0, none⟩) n c) (some (.int .i64 (k : Int))) none none).run Tryd.prog W = .ok (.slice (some ad) (n - k) (c - k)) W) ∧ ∀ (W : World) xs, xs.length ≤ n → Rd W (some ⟨g, 0, none⟩) xs → Rd W (some ad) (xs.drop k) := by
  refine ⟨if c = k then ⟨g, 0, none⟩ else (⟨g, 0, none⟩ : Addr).add (k * 1), fun W => ?_, fun W xs hxl h => ?_⟩
  · have hb : (Instr.sliceBounds true n c (some (.int .i64 (k : Int))) none none).run Tryd.prog W = .ok (k, n, c) W := by
      simp [Instr.sliceBounds, Sem.run_bind, go_sem, Int.natCast_nonneg, Int.ofNat_le.2 hk]
    have hz : (sizeOf E).run Tryd.prog W = .ok 1 W := by
      cases hq : Tryd.prog.info? E with
      | none => simp [hq] at hs
      | some i =>
        have : i.size = 1 := by simpa [hq] using hs
        simp [sizeOf, typeInfo, hq, Sem.run_bind, this]
    unfold Instr.slice
    simp only [Sem.run_bind, run_underlying ht W, Result.andThen_ok, hb, hz, Sem.run_pure]
    split <;> rfl
  · intro j x hx
    rw [List.getElem?_drop] at hx
    obtain ⟨b, o, e, h1, h2⟩ := h _ x hx
    injection e with e
    injection e with e1 e2
    subst e1 e2
    split
    · rename_i hck
      exact absurd (List.getElem?_eq_some_iff.1 hx).1 (by omega)
    · refine ⟨g, k, ?_, h1, ?_⟩
      · have hadd : (⟨g, 0, none⟩ : Addr).add (k * 1) = ⟨g, k, none⟩ := by unfold Addr.add; split <;> simp_all
        rw [hadd]
      · rw [Nat.zero_add] at h2; exact h2
theorem owns_cap {w : World} {B g c : Nat} {E : TypeId} {xs : List Value} (h : Owns w B E (.slice (some ⟨g, 0, none⟩) xs.length c) xs) : xs.length ≤ c := by
  have h0 : w.ownsRow B E 1 (.slice (some ⟨g, 0, none⟩) xs.length c) xs.length xs := h
  rcases h0.2 with ⟨hv, _⟩ | ⟨g', cap, cur, hv, _, _, hc, _⟩
  · cases hv
  · injection hv with _ _ e3
    rw [e3]; exact hc
theorem owns_rd {w : World} {B g c : Nat} {E : TypeId} {xs : List Value} (h : Owns w B E (.slice (some ⟨g, 0, none⟩) xs.length c) xs) : Rd w (some ⟨g, 0, none⟩) xs := by
  by_cases hx : xs = []
  · rw [hx]; exact Rd.nil _ _
  · obtain ⟨g', c', hv, _, _, _, _, hR⟩ := owns_form h hx
    injection hv with e1
    injection e1 with e1
    rw [e1]; exact hR
theorem encs_cells (l : List (List UInt8)) : ∀ u ∈ l.map encStr, u.oneCell' = true := fun u hu => by
  obtain ⟨x, _, rfl⟩ := List.mem_map.1 hu
  rfl
set_option maxRecDepth 20000 in
set_option maxHeartbeats 8000000 in
theorem RNames_any (w : World) (T M : Int) (v : Value) (L : List Pr) (h : PS w v L) (hz : L.length ≤ 1000000) :
    Calls Tryd.prog 29 #[.agg #[.int .i64 T, .int .i64 M, v]] w fun e w' => ∃ v', e = .returned v' ∧ Owns w' w.heap.size 9 v' ((namesL L).map encStr) ∧ Below w.heap.size w w' := by
  obtain ⟨A, c, rfl, hc, hm, hR, hl⟩ := h
  have HR := Lib.hid hR
  have HL := Lib.hid hl
  generalize hn : L.length = n at *
  have HN := Lib.hid hn
  clear hR hl hn
  go_enter Tryd.func29, Tryd.ntmps29
  go_upto_region 1 with (refine Rg.box_fresh rfl 30 _ rfl #[.int .i64 T, .int .i64 M, .slice A n c] rfl ?_; intro X hX hbX hnX; have HX := Lib.hid hX; have HBX := Lib.hid hbX; clear hX hbX hnX)
  have HO0 := Lib.hid (show Owns (X.alloc (.cells #[] 9)) w.heap.size 9 (.slice (some ⟨X.heap.size, 0, none⟩) 0 0) [] from Owns.new X w.heap.size 9 [] HBX.out.size (by decide))
  have HXX := Lib.hid (HX.out.below ((Below.refl _ _).alloc (Nat.le_refl _) (.cells #[] 9)) HX.out.lt)
  have HB0 := Lib.hid (show Below w.heap.size w (X.alloc (.cells #[] 9)) from HBX.out.alloc HBX.out.size _)
  have c2 := HXX.out.cell 2 (v := .slice A n c) rfl
  go_upto_region 3 with fail
  clear c2
  go_loopw [11, 3] (fun i u wr => ∃ j g c2 : Nat, j ≤ n ∧ i = .int .i64 j ∧ u = .slice (some ⟨g, 0, none⟩) (namesN (L.take j)).length c2 ∧ w.heap.size ≤ g ∧ Owns wr w.heap.size 9 u ((namesN (L.take j)).map encStr) ∧ Below w.heap.size w wr) (fun i _ _ => n - (intOf i).toNat)
  case atStart => exact ⟨0, X.heap.size, 0, Nat.zero_le _, rfl, rfl, HBX.out.size, HO0.out, HB0.out⟩
  case round =>
    obtain ⟨j, g, c2, hj, rfl, rfl, hgw, ho, hb⟩ := hrel
    have HO := Lib.hid ho
    have HW := Lib.hid hb
    have HGW := Lib.hid hgw
    clear ho hb hgw
    by_cases hlt : j < n
    · have hd : decide (j < n) = true := by simp; exact hlt
      have hik : (j : Int) < n := by omega
      have hik0 : (0 : Int) ≤ j := by omega
      obtain ⟨p, hp⟩ : ∃ p, L[j]? = some p := ⟨_, List.getElem?_eq_getElem (by rw [HN.out]; exact hlt)⟩
      have hpl := HL.out p (List.mem_of_getElem? hp)
      have HPL := Lib.hid hpl
      have HNX := Lib.hid (namesN_take hp)
      have hpp : 0 < (pcells L).length := by rw [pcells_length L HL.out, HN.out]; omega
      obtain ⟨b, o, rfl, hbl, hcell⟩ := HR.out.place hpp
      have HC := Lib.hid (pair_cells HW.out hbl HL.out hcell hp)
      have HVP := Lib.hid (pairV_size hpl)
      have hml : (namesN (L.take j)).length ≤ n := by have := (namesN_all (L.take j)).2.1; rw [List.length_take] at this; omega
      generalize hout : namesN (L.take j) = out at *
      generalize hm0 : out.length = m at *
      have HM := Lib.hid hm0
      have HM64 := Lib.hid (show m ≤ 1000000 by omega)
      have HC2 := Lib.hid (show m ≤ c2 by
        have h2 : Owns wr w.heap.size 9 (.slice (some ⟨g, 0, none⟩) (out.map encStr).length c2) (out.map encStr) := by rw [List.length_map, hm0]; exact HO.out
        have := owns_cap h2
        rw [List.length_map, hm0] at this; exact this)
      clear hpl hpp hcell hp hml hout hm0
      go_upto_region 5 with (first
        | (refine Cv.load_cells rfl 60 _ rfl b (o + j * 33) rfl (pairV p) _ HC.out Tryd.underlying60 rfl (by rw [HVP.out]; kernel_rfl) ?_; skip)
        | (refine Rg.store_fresh rfl 60 _ _ rfl (pairV p) _ 60 rfl rfl (by rw [HVP.out]; kernel_rfl) (by rw [HVP.out]; rfl) (pairV_one _) ?_; intro Y hY hbY; have HY := Lib.hid hY; have HBY := Lib.hid hbY; clear hY hbY))
      have HWY := Lib.hid (HW.out.trans (HBY.out.mono HW.out.size))
      have HOY := Lib.hid (HO.out.below HBY.out)
      have HPG := Lib.hid (show wr.heap.size ≠ g by
        have h2 : Owns wr w.heap.size 9 (.slice (some ⟨g, 0, none⟩) m c2) (out.map encStr) := HO.out
        have := (h2.lt g rfl).2; omega)
      go_upto_region 6 with fail
      go_loopw [6] (fun i wi => ∃ k : Nat, k ≤ m ∧ i = .int .i64 k ∧ (∀ i x, i < k → out[i]? = some x → x < p.1) ∧ Below Y.heap.size Y wi) (fun i _ => m - (intOf i).toNat)
      case atStart => exact ⟨0, Nat.zero_le _, rfl, fun i x h => by omega, Below.refl _ _⟩
      case round =>
        obtain ⟨k, hkle, rfl, hless, hbi⟩ := hrel
        have HLS := Lib.hid hless
        have HYI := Lib.hid hbi
        have HPI := Lib.hid (HY.out.below HYI.out HY.out.lt)
        have HOI := Lib.hid (HOY.out.below HYI.out)
        have HBI := Lib.hid (HWY.out.trans (HYI.out.mono HWY.out.size))
        clear hless hbi
        have c0 := HPI.out.cell 0 (pairV_0 p)
        by_cases hkm : k < m
        · obtain ⟨x, hx⟩ : ∃ x, out[k]? = some x := ⟨_, List.getElem?_eq_getElem (by rw [HM.out]; exact hkm)⟩
          have HX1 := Lib.hid hx
          have hkd : decide (k < m) = true := by simp; exact hkm
          have hk1 : (k : Int) < m := by omega
          have hk0 : (0 : Int) ≤ k := by omega
          have hmz := HM64.out
          have cx : wr.cell? ⟨g, k, none⟩ = some (.string (strB x)) := by
            have h2 : Owns wr w.heap.size 9 (.slice (some ⟨g, 0, none⟩) (out.map encStr).length c2) (out.map encStr) := by rw [List.length_map, HM.out]; exact HOI.out
            obtain ⟨b', o', e, _, h3⟩ := owns_rd h2 k (.string (strB x)) (by rw [List.getElem?_map, hx]; rfl)
            injection e with e
            injection e with e1 e2
            subst e1 e2
            rw [Nat.zero_add] at h3; exact h3
          clear hx
          by_cases hxt : x < p.1
          · have hbl1 : Op.bytesLess (strB x).toList (strB p.1).toList = true := by rw [bytesLess_eq, strB_toList, strB_toList]; simpa using hxt
            have HLS2 := Lib.hid (show ∀ i y, i < k + 1 → out[i]? = some y → y < p.1 from fun i y hi hy => by
              by_cases e : i = k
              · subst e; rw [HX1.out] at hy; cases hy; exact hxt
              · exact HLS.out i y (by omega) hy)
            clear hxt
            go_wp2
            go_quiet (fail)
            go_wp2
            go_roundw
            case rel =>
              first
                | exact ⟨k + 1, by omega, by go_num, HLS2.out, bdN HYI.out _⟩
                | ((repeat apply Exists.intro); refine ⟨?_, rfl⟩; exact ⟨k + 1, by omega, by go_num, HLS2.out, bdN HYI.out _⟩)
            case measure => (first | (simp [intOf]; done) | (simp [intOf]; omega))
          · have hbl1 : Op.bytesLess (strB x).toList (strB p.1).toList = false := by rw [bytesLess_eq, strB_toList, strB_toList]; simpa using hxt
            have HOUT := Lib.hid (insN_at out k p.1 HLS.out (fun y hy => by rw [HX1.out] at hy; cases hy; exact hxt) (by rw [HM.out]; exact hkle))
            clear hxt
            by_cases hxe : x = p.1
            · have hse : ((strB x).toList == (strB p.1).toList) = true := by rw [hxe]; exact beq_self_eq_true _
              have HNE := Lib.hid (show namesN (L.take (j + 1)) = out by rw [HNX.out, HOUT.out, if_pos (by rw [HX1.out, hxe])])
              clear hxe
              go_wp2
              go_quiet (fail)
              go_wp2
              go_quiet (fail)
              go_wp2
              go_roundw
              case rel =>
                have hF : Owns wr w.heap.size 9 (.slice (some ⟨g, 0, none⟩) m c2) ((namesN (L.take (j + 1))).map encStr) := by rw [HNE.out]; exact HOI.out
                have hG := fun n => hF.below (bdN (Below.refl wr.heap.size wr) n)
                first
                  | exact ⟨j + 1, g, c2, by omega, by go_num, by rw [HNE.out, HM.out], HGW.out, hG _, bdN HBI.out _⟩
                  | ((repeat apply Exists.intro); refine ⟨?_, rfl⟩; exact ⟨j + 1, g, c2, by omega, by go_num, by rw [HNE.out, HM.out], HGW.out, hG _, bdN HBI.out _⟩)
              case measure => (first | (simp [intOf]; done) | (simp [intOf]; omega))
            · have hse : ((strB x).toList == (strB p.1).toList) = false := by rw [strB_beq, beq_eq_false_iff_ne]; exact hxe
              have HNF := Lib.hid (show ¬ out[k]? = some p.1 by rw [HX1.out]; simpa using hxe)
              clear hxe
              go_wp2
              go_quiet (fail)
              go_wp2
              go_quiet (fail)
              go_upto_region 9 with fail
              clear c0 cx
              have HSL0 := slice_from 48 9 Tryd.underlying48 (by kernel_rfl) g m c2 k hkle HC2.out
              obtain ⟨ad2, hsl, hdr⟩ := HSL0
              have HSL := Lib.hid hsl
              have HDR := Lib.hid (fun (W : World) (h : Owns W w.heap.size 9 (.slice (some ⟨g, 0, none⟩) m c2) (out.map encStr)) => by
                have h := fun (hh : Rd W (some ⟨g, 0, none⟩) (out.map encStr)) => hdr W (out.map encStr) (by rw [List.length_map, HM.out]; exact Nat.le_refl _) hh
                rw [← List.map_drop] at h
                exact h (by
                  have h2 : Owns W w.heap.size 9 (.slice (some ⟨g, 0, none⟩) (out.map encStr).length c2) (out.map encStr) := by rw [List.length_map, HM.out]; assumption
                  exact owns_rd h2))
              have HFR := Lib.hid (fun (W : World) (h : Owns W w.heap.size 9 (.slice (some ⟨g, 0, none⟩) m c2) (out.map encStr)) => owns_front (k := k) (by rw [List.length_map, HM.out]; exact h) (by rw [List.length_map, HM.out]; exact hkle))
              have hsk1 : (0 : Int) ≤ k := by omega
              have hsk2 : (k : Int) ≤ c2 := by have := HC2.out; omega
              clear hsl hdr
              refine wp_name3 (fun Z hZ => ?_)
              have HYZ := Lib.hid (show Below wr.heap.size wr Z by rw [hZ]; first | exact bdN (Below.refl _ _) _ | exact bdN (bdN (Below.refl _ _) _) _)
              have HPZ := Lib.hid (HPI.out.below HYZ.out HPI.out.lt)
              have HOZ := Lib.hid (HOI.out.below HYZ.out)
              have HZB := Lib.hid (HBI.out.trans (HYZ.out.mono HBI.out.size))
              clear hZ
              refine RL.start (Only Z g) (by kernel_rfl) ((Only.refl Z g).drew) ?_
              refine' RL.takeV (i := 0) (v := _) rfl (by kernel_rfl) (by kernel_rfl) (by kernel_rfl) (fun _ _ _ h => h) (by rfl) ?hk1 ?_
              case hk1 => (intro W hSW; go_simp; try with_reducible rfl)
              (try simp only [Act.put, List.setIfInBounds_toArray, List.set_cons_zero, List.set_cons_succ])
              refine' RL.takeV (i := 1) (v := _) rfl (by kernel_rfl) (by kernel_rfl) (by kernel_rfl) (fun _ _ _ h => h) (by rfl) ?hk2 ?_
              case hk2 => (intro W hSW; go_simp; try with_reducible rfl)
              (try simp only [Act.put, List.setIfInBounds_toArray, List.set_cons_zero, List.set_cons_succ])
              refine' RL.takeV (i := 2) (v := _) rfl (by kernel_rfl) (by kernel_rfl) (by kernel_rfl) (fun _ _ _ h => h) (by rfl) ?hk3 ?_
              case hk3 => (intro W hSW; have hs1 := hsk1; go_simp; try with_reducible rfl)
              (try simp only [Act.put, List.setIfInBounds_toArray, List.set_cons_zero, List.set_cons_succ])
              refine' RL.takeV (i := 3) (v := _) rfl (by kernel_rfl) (by kernel_rfl) (by kernel_rfl) (fun _ _ _ h => h) (by rfl) ?hk4 ?_
              case hk4 => (intro W hSW; go_simp; try with_reducible rfl)
              (try simp only [Act.put, List.setIfInBounds_toArray, List.set_cons_zero, List.set_cons_succ])
              refine' RL.takeV (i := 4) (v := _) rfl (by kernel_rfl) (by kernel_rfl) (by kernel_rfl) (fun _ _ _ h => h) (by rfl) ?hk5 ?_
              case hk5 => (intro W hSW; have c0 := (hSW.blk HPZ.out HPG.out).cell 0 (pairV_0 p); go_simp; try with_reducible rfl)
              (try simp only [Act.put, List.setIfInBounds_toArray, List.set_cons_zero, List.set_cons_succ])
              refine' RL.takeV (i := 6) (v := _) rfl (by kernel_rfl) (by kernel_rfl) (by kernel_rfl) (fun _ _ _ h => h) (by rfl) ?hk6 ?_
              case hk6 => (intro W hSW; go_simp; try with_reducible rfl)
              (try simp only [Act.put, List.setIfInBounds_toArray, List.set_cons_zero, List.set_cons_succ])
              refine' RL.takeV (i := 7) (v := _) rfl (by kernel_rfl) (by kernel_rfl) (by kernel_rfl) (fun _ _ _ h => h) (by rfl) ?hk7 ?_
              case hk7 => (intro W hSW; go_simp; try with_reducible rfl)
              (try simp only [Act.put, List.setIfInBounds_toArray, List.set_cons_zero, List.set_cons_succ])
              refine' RL.takeV (i := 8) (v := _) rfl (by kernel_rfl) (by kernel_rfl) (by kernel_rfl) (fun _ _ _ h => h) (by rfl) ?hk8 ?_
              case hk8 => (intro W hSW; have hs2 := HSL.out W; go_simp; try with_reducible rfl)
              (try simp only [Act.put, List.setIfInBounds_toArray, List.set_cons_zero, List.set_cons_succ])
              refine RL.stepK (i := 5) rfl (by kernel_rfl) (by rfl) (fun wa hlwa hswa K hK => ?_)
              go_simp
              have HZa := Lib.hid (show Below Z.heap.size Z wa from (Below.drew (Below.refl _ _)).trans hlwa)
              refine hK.out _ _ (Only.alloc hswa _) ?_
              clear hK
              (try simp only [Act.put, List.setIfInBounds_toArray, List.set_cons_zero, List.set_cons_succ])
              refine RL.stepK (i := 9) rfl (by kernel_rfl) (by rfl) (fun wb hlwb hswb K hK => ?_)
              have HO5 := Lib.hid ((Owns.new wa Z.heap.size 9 [.string (strB p.1)] HZa.out.size (by show 1 ≤ maxLen; unfold maxLen; omega)).below hlwb)
              have HZb := Lib.hid ((HZa.out.alloc HZa.out.size _).trans (Below.mono hlwb (by have := HZa.out.size; simp; omega)))
              have HDb := Lib.hid (HDR.out wb ((HOZ.out.below HZb.out)))
              refine RT.app1_op _ _ 48 rfl Tryd.underlying48 infoS rfl (by decide) HO5.out rfl (ys := (out.drop k).map encStr) (m := m - k) (by rw [List.length_map, List.length_drop, HM.out]) rfl HDb.out (encs_cells _) (by have := HM64.out; simp <;> omega) HZb.out.size ?_
              intro v9 wc hv9 hg9 hat9
              obtain ⟨g9, c9, rfl, hc9, hm9, hB9, hl9, hR9⟩ := owns_form hv9 (by simp)
              have HR9 := Lib.hid hR9
              have HZc := Lib.hid (HZb.out.grown hg9 HZb.out.size (fun j hj => by cases hj; have := HZa.out.size; exact this))
              refine hK.out _ _ (Only.grown hswb hg9 (fun j hj => .inr (by cases hj; exact HZa.out.size))) ?_
              clear hK hv9 hg9 hat9 hR9
              (try simp only [Act.put, List.setIfInBounds_toArray, List.set_cons_zero, List.set_cons_succ])
              refine RL.stepK (i := 10) rfl (by kernel_rfl) (by rfl) (fun wd hlwd hswd K hK => ?_)
              have HZd := Lib.hid (HZc.out.trans (Below.mono hlwd HZc.out.size))
              have HOd := Lib.hid (HFR.out wd (HOZ.out.below HZd.out))
              refine RT.app1_op _ _ 48 rfl Tryd.underlying48 infoS rfl (by decide) HOd.out rfl (ys := [.string (strB p.1)] ++ (out.drop k).map encStr) (m := ([Value.string (strB p.1)] ++ (out.drop k).map encStr).length) rfl rfl (HR9.out.below hlwd) (fun u hu => by rcases List.mem_append.1 hu with h | h; rw [List.mem_singleton.1 h]; rfl; exact encs_cells _ u h) (by have := HM64.out; simp [HM.out]; omega) (Nat.le_trans HZB.out.size HZd.out.size) ?_
              intro v10 we hv10 hg10 hat10
              have HV := Lib.hid hv10
              refine hK.out _ _ (Only.grown hswd hg10 (fun j hj => .inl (by cases hj; rfl))) ?_
              clear hK hv10 hg10 hat10
              (try simp only [Act.put, List.setIfInBounds_toArray, List.set_cons_zero, List.set_cons_succ])
              refine' RL.takeV (i := 11) (v := _) rfl (by kernel_rfl) (by kernel_rfl) (by kernel_rfl) (fun _ _ _ h => h) (by rfl) ?hk9 ?_
              case hk9 => (intro W hSW; go_simp; try with_reducible rfl)
              (try simp only [Act.put, List.setIfInBounds_toArray, List.set_cons_zero, List.set_cons_succ])
              refine RL.done (by kernel_rfl) (fun wh hlwh hswh => ?_)
              have HVH := Lib.hid (HV.out.below hlwh)
              have HBH := Lib.hid (Only.belowOf HZB.out hswh HGW.out)
              clear hlwh hswh
              have HINS := Lib.hid (show ((out.map encStr).take k ++ ([.string (strB p.1)] ++ (out.drop k).map encStr)) = (namesN (L.take (j + 1))).map encStr by
                rw [HNX.out, HOUT.out, if_neg HNF.out, List.map_append, List.map_cons, List.map_take]; rfl)
              go_wp2
              go_roundw
              case rel =>
                have hF := HVH.out
                rw [HINS.out] at hF
                have hne : (namesN (L.take (j + 1))).map encStr ≠ [] := by rw [← HINS.out]; simp
                obtain ⟨g', c', hv', h1, h2, h3, h4, h5⟩ := owns_form hF hne
                first
                  | exact ⟨j + 1, g', c', by omega, by go_num, by rw [hv', List.length_map], h3, hF, HBH.out⟩
                  | ((repeat apply Exists.intro); refine ⟨?_, rfl⟩; exact ⟨j + 1, g', c', by omega, by go_num, by rw [hv', List.length_map], h3, hF, HBH.out⟩)
              case measure => (first | (simp [intOf]; done) | (simp [intOf]; omega))
        · obtain rfl : k = m := by omega
          have hkd : decide (k < k) = false := by simp
          have HNF := Lib.hid (show ¬ out[k]? = some p.1 by rw [List.getElem?_eq_none (by rw [HM.out]; exact Nat.le_refl _)]; simp)
          have HOUT := Lib.hid (insN_at out k p.1 HLS.out (fun y hy => by rw [List.getElem?_eq_none (by rw [HM.out]; exact Nat.le_refl _)] at hy; cases hy) (by rw [HM.out]; exact hkle))
          go_wp2
          go_quiet (fail)
          go_wp2
          go_quiet (fail)
          go_upto_region 9 with fail
          clear c0
          have HSL0 := slice_from 48 9 Tryd.underlying48 (by kernel_rfl) g k c2 k hkle HC2.out
          obtain ⟨ad2, hsl, hdr⟩ := HSL0
          have HSL := Lib.hid hsl
          have HDR := Lib.hid (fun (W : World) (h : Owns W w.heap.size 9 (.slice (some ⟨g, 0, none⟩) k c2) (out.map encStr)) => by
            have h := fun (hh : Rd W (some ⟨g, 0, none⟩) (out.map encStr)) => hdr W (out.map encStr) (by rw [List.length_map, HM.out]; exact Nat.le_refl _) hh
            rw [← List.map_drop] at h
            exact h (by
              have h2 : Owns W w.heap.size 9 (.slice (some ⟨g, 0, none⟩) (out.map encStr).length c2) (out.map encStr) := by rw [List.length_map, HM.out]; assumption
              exact owns_rd h2))
          have HFR := Lib.hid (fun (W : World) (h : Owns W w.heap.size 9 (.slice (some ⟨g, 0, none⟩) k c2) (out.map encStr)) => owns_front (k := k) (by rw [List.length_map, HM.out]; exact h) (by rw [List.length_map, HM.out]; exact hkle))
          have hsk1 : (0 : Int) ≤ k := by omega
          have hsk2 : (k : Int) ≤ c2 := by have := HC2.out; omega
          clear hsl hdr
          refine wp_name3 (fun Z hZ => ?_)
          have HYZ := Lib.hid (show Below wr.heap.size wr Z by rw [hZ]; first | exact bdN (Below.refl _ _) _ | exact bdN (bdN (Below.refl _ _) _) _)
          have HPZ := Lib.hid (HPI.out.below HYZ.out HPI.out.lt)
          have HOZ := Lib.hid (HOI.out.below HYZ.out)
          have HZB := Lib.hid (HBI.out.trans (HYZ.out.mono HBI.out.size))
          clear hZ
          refine RL.start (Only Z g) (by kernel_rfl) ((Only.refl Z g).drew) ?_
          refine' RL.takeV (i := 0) (v := _) rfl (by kernel_rfl) (by kernel_rfl) (by kernel_rfl) (fun _ _ _ h => h) (by rfl) ?hk10 ?_
          case hk10 => (intro W hSW; go_simp; try with_reducible rfl)
          (try simp only [Act.put, List.setIfInBounds_toArray, List.set_cons_zero, List.set_cons_succ])
          refine' RL.takeV (i := 1) (v := _) rfl (by kernel_rfl) (by kernel_rfl) (by kernel_rfl) (fun _ _ _ h => h) (by rfl) ?hk11 ?_
          case hk11 => (intro W hSW; go_simp; try with_reducible rfl)
          (try simp only [Act.put, List.setIfInBounds_toArray, List.set_cons_zero, List.set_cons_succ])
          refine' RL.takeV (i := 2) (v := _) rfl (by kernel_rfl) (by kernel_rfl) (by kernel_rfl) (fun _ _ _ h => h) (by rfl) ?hk12 ?_
          case hk12 => (intro W hSW; have hs1 := hsk1; go_simp; try with_reducible rfl)
          (try simp only [Act.put, List.setIfInBounds_toArray, List.set_cons_zero, List.set_cons_succ])
          refine' RL.takeV (i := 3) (v := _) rfl (by kernel_rfl) (by kernel_rfl) (by kernel_rfl) (fun _ _ _ h => h) (by rfl) ?hk13 ?_
          case hk13 => (intro W hSW; go_simp; try with_reducible rfl)
          (try simp only [Act.put, List.setIfInBounds_toArray, List.set_cons_zero, List.set_cons_succ])
          refine' RL.takeV (i := 4) (v := _) rfl (by kernel_rfl) (by kernel_rfl) (by kernel_rfl) (fun _ _ _ h => h) (by rfl) ?hk14 ?_
          case hk14 => (intro W hSW; have c0 := (hSW.blk HPZ.out HPG.out).cell 0 (pairV_0 p); go_simp; try with_reducible rfl)
          (try simp only [Act.put, List.setIfInBounds_toArray, List.set_cons_zero, List.set_cons_succ])
          refine' RL.takeV (i := 6) (v := _) rfl (by kernel_rfl) (by kernel_rfl) (by kernel_rfl) (fun _ _ _ h => h) (by rfl) ?hk15 ?_
          case hk15 => (intro W hSW; go_simp; try with_reducible rfl)
          (try simp only [Act.put, List.setIfInBounds_toArray, List.set_cons_zero, List.set_cons_succ])
          refine' RL.takeV (i := 7) (v := _) rfl (by kernel_rfl) (by kernel_rfl) (by kernel_rfl) (fun _ _ _ h => h) (by rfl) ?hk16 ?_
          case hk16 => (intro W hSW; go_simp; try with_reducible rfl)
          (try simp only [Act.put, List.setIfInBounds_toArray, List.set_cons_zero, List.set_cons_succ])
          refine' RL.takeV (i := 8) (v := _) rfl (by kernel_rfl) (by kernel_rfl) (by kernel_rfl) (fun _ _ _ h => h) (by rfl) ?hk17 ?_
          case hk17 => (intro W hSW; have hs2 := HSL.out W; go_simp; try with_reducible rfl)
          (try simp only [Act.put, List.setIfInBounds_toArray, List.set_cons_zero, List.set_cons_succ])
          refine RL.stepK (i := 5) rfl (by kernel_rfl) (by rfl) (fun wa hlwa hswa K hK => ?_)
          go_simp
          have HZa := Lib.hid (show Below Z.heap.size Z wa from (Below.drew (Below.refl _ _)).trans hlwa)
          refine hK.out _ _ (Only.alloc hswa _) ?_
          clear hK
          (try simp only [Act.put, List.setIfInBounds_toArray, List.set_cons_zero, List.set_cons_succ])
          refine RL.stepK (i := 9) rfl (by kernel_rfl) (by rfl) (fun wb hlwb hswb K hK => ?_)
          have HO5 := Lib.hid ((Owns.new wa Z.heap.size 9 [.string (strB p.1)] HZa.out.size (by show 1 ≤ maxLen; unfold maxLen; omega)).below hlwb)
          have HZb := Lib.hid ((HZa.out.alloc HZa.out.size _).trans (Below.mono hlwb (by have := HZa.out.size; simp; omega)))
          have HDb := Lib.hid (HDR.out wb ((HOZ.out.below HZb.out)))
          refine RT.app1_op _ _ 48 rfl Tryd.underlying48 infoS rfl (by decide) HO5.out rfl (ys := (out.drop k).map encStr) (m := 0) (by rw [List.length_map, List.length_drop, HM.out]; exact Nat.sub_self k) rfl HDb.out (encs_cells _) (by have := HM64.out; simp <;> omega) HZb.out.size ?_
          intro v9 wc hv9 hg9 hat9
          obtain ⟨g9, c9, rfl, hc9, hm9, hB9, hl9, hR9⟩ := owns_form hv9 (by simp)
          have HR9 := Lib.hid hR9
          have HZc := Lib.hid (HZb.out.grown hg9 HZb.out.size (fun j hj => by cases hj; have := HZa.out.size; exact this))
          refine hK.out _ _ (Only.grown hswb hg9 (fun j hj => .inr (by cases hj; exact HZa.out.size))) ?_
          clear hK hv9 hg9 hat9 hR9
          (try simp only [Act.put, List.setIfInBounds_toArray, List.set_cons_zero, List.set_cons_succ])
          refine RL.stepK (i := 10) rfl (by kernel_rfl) (by rfl) (fun wd hlwd hswd K hK => ?_)
          have HZd := Lib.hid (HZc.out.trans (Below.mono hlwd HZc.out.size))
          have HOd := Lib.hid (HFR.out wd (HOZ.out.below HZd.out))
          refine RT.app1_op _ _ 48 rfl Tryd.underlying48 infoS rfl (by decide) HOd.out rfl (ys := [.string (strB p.1)] ++ (out.drop k).map encStr) (m := ([Value.string (strB p.1)] ++ (out.drop k).map encStr).length) rfl rfl (HR9.out.below hlwd) (fun u hu => by rcases List.mem_append.1 hu with h | h; rw [List.mem_singleton.1 h]; rfl; exact encs_cells _ u h) (by have := HM64.out; simp [HM.out]; omega) (Nat.le_trans HZB.out.size HZd.out.size) ?_
          intro v10 we hv10 hg10 hat10
          have HV := Lib.hid hv10
          refine hK.out _ _ (Only.grown hswd hg10 (fun j hj => .inl (by cases hj; rfl))) ?_
          clear hK hv10 hg10 hat10
          (try simp only [Act.put, List.setIfInBounds_toArray, List.set_cons_zero, List.set_cons_succ])
          refine' RL.takeV (i := 11) (v := _) rfl (by kernel_rfl) (by kernel_rfl) (by kernel_rfl) (fun _ _ _ h => h) (by rfl) ?hk18 ?_
          case hk18 => (intro W hSW; go_simp; try with_reducible rfl)
          (try simp only [Act.put, List.setIfInBounds_toArray, List.set_cons_zero, List.set_cons_succ])
          refine RL.done (by kernel_rfl) (fun wh hlwh hswh => ?_)
          have HVH := Lib.hid (HV.out.below hlwh)
          have HBH := Lib.hid (Only.belowOf HZB.out hswh HGW.out)
          clear hlwh hswh
          have HINS := Lib.hid (show ((out.map encStr).take k ++ ([.string (strB p.1)] ++ (out.drop k).map encStr)) = (namesN (L.take (j + 1))).map encStr by
            rw [HNX.out, HOUT.out, if_neg HNF.out, List.map_append, List.map_cons, List.map_take]; rfl)
          go_wp2
          go_roundw
          case rel =>
            have hF := HVH.out
            rw [HINS.out] at hF
            have hne : (namesN (L.take (j + 1))).map encStr ≠ [] := by rw [← HINS.out]; simp
            obtain ⟨g', c', hv', h1, h2, h3, h4, h5⟩ := owns_form hF hne
            first
              | exact ⟨j + 1, g', c', by omega, by go_num, by rw [hv', List.length_map], h3, hF, HBH.out⟩
              | ((repeat apply Exists.intro); refine ⟨?_, rfl⟩; exact ⟨j + 1, g', c', by omega, by go_num, by rw [hv', List.length_map], h3, hF, HBH.out⟩)
          case measure => (first | (simp [intOf]; done) | (simp [intOf]; omega))
    · obtain rfl : j = n := by omega
      have hdd : decide (j < j) = false := by simp
      go_wp2
      go_ret
      have e : namesL L = namesN (L.take j) := by rw [List.take_of_length_le (by rw [HN.out]; exact Nat.le_refl _), namesN_eq]
      refine ⟨_, rfl, ?_, HW.out⟩
      rw [e]; exact HO.out
end Go.Proofs.YtgdbplciepiinaaDoor.St
