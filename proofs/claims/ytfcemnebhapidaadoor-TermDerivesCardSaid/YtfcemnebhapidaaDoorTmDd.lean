/- The reference's Derived. -/
import Derived.Test.YtfcemnebhapidaaDoorTmAm
import Derived.Test.YtfcemnebhapidaaDoorTmFy
import Derived.OwnWalk
import Derived.Deep.DeepCutAuto
set_option linter.unusedVariables false
set_option linter.unusedSimpArgs false
namespace Go.Proofs.YtfcemnebhapidaaDoor.Te
open Go.RowKit Go.Proofs.YtfcemnebhapidaaDoor.Ow Go.Proofs.YtfcemnebhapidaaDoor.Mp Go.Maps Go.Proofs.YtfcemnebhapidaaDoor.Sp
def bools (hs : List Bool) : Array Value := (hs.map Value.bool).toArray
theorem bools_get {hs : List Bool} {j : Nat} {b : Bool} (h : hs[j]? = some b) : (bools hs)[j]? = some (.bool b) := by unfold bools; simp [h]
theorem bools_none (n : Nat) : bools (List.replicate n false) = Array.replicate n (.bool false) := by unfold bools; simp
/-- one bool of a block is set -/
theorem store_bool {P : Program} {ops : Array Oper} {rest : List Oper} {o : Oper} {a : Act} {w : World} {Q : Exit → Act → World → Prop} (hgd : o.guard = none) (ty : TypeId) (x y : Operand) (ho : o.op = .store ty x y)
    {b j T : Nat} {hs : List Bool} {v : Bool} (hx : a.eval x = .pointer (some ⟨b, j, none⟩)) (hy : a.eval y = .bool v) (hu : P.underlying ty = some .bool) (hi : (P.info? ty).map (·.size) = some 1) (hR : Rg.Blk w b T (bools hs)) (hj : j < hs.length)
    (h : ∀ w', Rg.Blk w' b T (bools (hs.set j v)) → w.grownBy w' (some b) → wpList P ops Q rest (a.put o.dst undef) w') : wpList P ops Q (o :: rest) a w :=
  wpList_plain hgd fun _ hK => by
    have hx' := hx
    have hy' := hy
    have hc := hR.cell j (bools_get (List.getElem?_eq_getElem hj))
    have hf := hR.frozen j
    have hS : Rg.Blk (w.setCell ⟨b, j, none⟩ (.bool v)) b T (bools (hs.set j v)) := by
      unfold Rg.Blk at *
      rw [heap_setCell_same w b j _ _ _ hR]
      unfold bools
      simp
    simp [go_sem] at hx' hy'
    unfold Oper.wp execOp
    cases hq : P.info? ty with
    | none => simp [hq] at hi
    | some i =>
    have hs' : i.size = 1 := by simpa [hq] using hi
    simp [ho, hx', hy', go_sem, hc, hf, hu, sizeOf, typeInfo, hq, hs']
    have := hK _ _ (h _ hS (Cl.grown_setCell w b j _))
    simpa [go_sem] using this
theorem own_rd {w : World} {B n c : Nat} {E : TypeId} {A : Option Addr} {xs : List Value} (h : Owns w B E (.slice A n c) xs) : Rd w A xs := by
  obtain ⟨A', c', e, hr, _⟩ := h.form
  injection e with e1 _ _
  subst e1
  exact hr
theorem made_blk {w : World} {B g m : Nat} {E : TypeId} (h : w.ownsRow B E 1 (.slice (some ⟨g, 0, none⟩) m m) m (madeCells #[Value.bool false] m).toList) : Rg.Blk w g E (bools (List.replicate m false)) := by
  rcases h.2 with ⟨hv, _⟩ | ⟨g', cap, cur, hv, _, hg, _, _, hcs, ht⟩
  · cases hv
  · injection hv with e1 _ e3
    injection e1 with e1
    injection e1 with e1
    subst e1 e3
    have h1 : cur = bools (List.replicate m false) := by
      apply Array.toList_inj.1
      rw [List.take_of_length_le (by rw [Array.length_toList]; omega), toList_madeCells_one] at ht
      rw [ht]
      unfold bools
      simp
    subst h1
    exact hg
theorem hadL_none (M : List Tm) (m : Nat) (t : Tm) : t ∉ hadL M (List.replicate m false) := by
  rw [hadL_mem]
  rintro ⟨j, _, h⟩
  have := List.mem_of_getElem? h
  simp at this
theorem mem_made {w0 w w' : World} {P : Asn} {T : Nat} {cs : Array Value} (h : Mem w0 [] w [P]) (hb : Rg.Blk w' w.heap.size T cs) (hg : w.grownBy w' none) : Mem w0 [] w' [P, blk w.heap.size T cs] := by
  have hbl : Below w.heap.size w w' := below_none hg
  exact h.call0 (N := [blk w.heap.size T cs]) ⟨Upd.of_below hbl, [[w.heap.size]], ⟨⟨rfl, hb⟩, trivial⟩, by simp, fun k hk => .inr (by simp at hk; omega)⟩
def ints (l : List Nat) : List Value := l.map fun (j : Nat) => Value.int .i64 (j : Int)
theorem ints_snoc (l : List Nat) (j : Nat) : ints l ++ [.int .i64 (j : Int)] = ints (l ++ [j]) := by unfold ints; simp
theorem ints_len (l : List Nat) : (ints l).length = l.length := by unfold ints; simp
def psL (M : List Tm) (t : Tm) : List Nat := t.prt.map (pos M)
def ptL (M : List Tm) (t : Tm) : List Nat := match t with
  | .two 4 a b => [pos M (.one 1 a), pos M (.one 1 b)]
  | _ => []
theorem pt_le (M : List Tm) (t : Tm) : (ptL M t).length ≤ t.prt.length := by
  unfold ptL
  split
  · simp [Tm.prt]
  · simp
theorem prt_exp {t u : Tm} (h : u ∈ t.prt) : u ∈ exp t := by
  cases t with
  | atom s => simp [Tm.prt] at h
  | one k a => simpa [Tm.prt, exp] using h
  | two k a b => simp [Tm.prt] at h; rcases h with rfl | rfl <;> simp [exp]
theorem ps_step {M : List Tm} {t u : Tm} {j : Nat} (h : t.prt[j]? = some u) : (psL M t).take j ++ [pos M u] = (psL M t).take (j + 1) := by
  unfold psL
  rw [List.take_add_one, List.getElem?_map, h]
  rfl
def kndV (t : Tm) : Value := .string (strB t.knd)
theorem kndV_step {M : List Tm} {k : Nat} {t : Tm} (h : M[k]? = some t) : (M.take k).map kndV ++ [kndV t] = (M.take (k + 1)).map kndV := by
  rw [List.take_add_one, h, List.map_append]; rfl
/-- those that are had among the first j -/
def dj (M : List Tm) (hs : List Bool) (j : Nat) : List Tm := ((M.zip hs).take j).filterMap fun x => if x.2 then some x.1 else none
theorem dj_step {M : List Tm} {hs : List Bool} {j : Nat} {t : Tm} {b : Bool} (ht : M[j]? = some t) (hb : hs[j]? = some b) : dj M hs (j + 1) = dj M hs j ++ (if b = true then [t] else []) := by
  unfold dj
  rw [List.take_add_one, (List.getElem?_zip_eq_some (z := (t, b))).2 ⟨ht, hb⟩, List.filterMap_append]
  cases b <;> simp
theorem dj_len (M : List Tm) (hs : List Bool) (j : Nat) : (dj M hs j).length ≤ j := by
  unfold dj
  have h1 := List.length_filterMap_le (fun (x : Tm × Bool) => if x.2 then some x.1 else none) ((M.zip hs).take j)
  rw [List.length_take] at h1
  omega
theorem dj_all {M : List Tm} {hs : List Bool} {j : Nat} (h : M.length ≤ j) : dj M hs j = hadL M hs := by
  unfold dj hadL
  rw [List.take_of_length_le (by rw [List.length_zip]; omega)]
theorem mem_own_ge {w W : World} {L : List Asn} (h : Mem w [] W L) (i : Nat) {E : Nat} {v : Value} {xs : List Value} (hi : L[i]? = some (own E v xs)) : Owns W w.heap.size E v xs := by
  obtain ⟨s, ⟨rfl, hP⟩, hs⟩ := h.get i hi
  refine ⟨hP.1, hP.2.imp id (fun ⟨g, cap, cur, hv, hb, rest⟩ => ⟨g, cap, cur, hv, ?_, rest⟩)⟩
  rcases hs g (by rw [hv]; simp [Value.ownBlock]) with h1 | h1
  · simp at h1
  · exact h1
theorem many_own {w W : World} {L M : List Asn} (h : Mem w [] W L) {i : Nat} (hi : L[i]? = some (many M)) {E : Nat} {v : Value} {xs : List Value} (hm : own E v xs ∈ M) : Owns W 0 E v xs := by
  obtain ⟨j, hj⟩ := List.getElem?_of_mem hm
  obtain ⟨s, _, hP⟩ := h.manyGet i hi hj
  exact hP
/-- are all of some parts had -/
def okB (M : List Tm) (hs : List Bool) (bA : Bool) (l : List Tm) : Bool := !bA && l.all fun u => (hs[pos M u]?).getD false
theorem okB_step {M : List Tm} {hs : List Bool} {bA : Bool} {t u : Tm} {j : Nat} {b : Bool} (hu : t.prt[j]? = some u) (hb : hs[pos M u]? = some b) : okB M hs bA (t.prt.take (j + 1)) = (okB M hs bA (t.prt.take j) && b) := by
  unfold okB
  rw [List.take_add_one, hu, List.all_append]
  simp [hb, Bool.and_assoc]
theorem okB_all {M : List Tm} {hs : List Bool} {bA : Bool} {t : Tm} (hn : M.Nodup) (hl : hs.length = M.length) (hA : bA = true ↔ ∃ s, t = .atom s) (hq : ∀ u ∈ t.prt, u ∈ M) : okB M hs bA t.prt = true ↔ AllP (hadL M hs) t := by
  unfold okB AllP
  rw [Bool.and_eq_true, List.all_eq_true]
  constructor
  · rintro ⟨h1, h2⟩
    refine ⟨(fun s e => by rw [hA.2 ⟨s, e⟩] at h1; cases h1), fun u hu => ?_⟩
    obtain ⟨b, hb⟩ := bit_some hl (hq u hu)
    have h3 := h2 u hu
    rw [hb] at h3
    exact (bit_iff hn (hq u hu) hb).2 (by simpa using h3)
  · rintro ⟨h1, h2⟩
    refine ⟨?_, fun u hu => ?_⟩
    · cases bA with
      | false => rfl
      | true => obtain ⟨s, e⟩ := hA.1 rfl; exact absurd e (h1 s)
    · obtain ⟨b, hb⟩ := bit_some hl (hq u hu)
      rw [hb]
      simpa using (bit_iff hn (hq u hu) hb).1 (h2 u hu)
theorem share_iff {K : List Tm} {a b : Tm} (okv ha hb pa pb : Bool) (h0 : okv = true ↔ AllP K (.two 4 a b)) (h1 : a ∈ K ↔ ha = true) (h2 : b ∈ K ↔ hb = true) (h3 : Tm.one 1 a ∈ K ↔ pa = true) (h4 : Tm.one 1 b ∈ K ↔ pb = true) :
    (okv || (ha && pb) || (hb && pa)) = true ↔ AllP K (.two 4 a b) ∨ Sh1 K (.two 4 a b) ∨ Sh2 K (.two 4 a b) := by
  rw [Bool.or_eq_true, Bool.or_eq_true, Bool.and_eq_true, Bool.and_eq_true, h0, ← h1, ← h2, ← h3, ← h4]
  constructor
  · rintro ((h | ⟨h, h'⟩) | ⟨h, h'⟩)
    · exact .inl h
    · exact .inr (.inl ⟨a, b, rfl, h, h'⟩)
    · exact .inr (.inr ⟨a, b, rfl, h, h'⟩)
  · rintro (h | ⟨x, y, e, h, h'⟩ | ⟨x, y, e, h, h'⟩)
    · exact .inl (.inl h)
    · injection e with _ e1 e2; subst e1 e2; exact .inl (.inr ⟨h, h'⟩)
    · injection e with _ e1 e2; subst e1 e2; exact .inr ⟨h, h'⟩
/-- a share's points, or none -/
theorem sh_cases {t : Tm} (h : t.wf) : ((strB t.knd).toList == [115, 104, 97, 114, 101]) = true ∧ (∀ M, ptL M t = t.prt.map fun u => pos M (.one 1 u)) ∧ (∀ u ∈ t.prt, Tm.one 1 u ∈ exp t) ∨ ((strB t.knd).toList == [115, 104, 97, 114, 101]) = false ∧ (∀ M, ptL M t = []) := by
  rcases sh_knd h with ⟨h1, a, b, rfl⟩ | ⟨h1, h2⟩
  · exact .inl ⟨h1, fun M => rfl, fun u hu => by simp [Tm.prt] at hu; rcases hu with rfl | rfl <;> simp [exp]⟩
  · refine .inr ⟨h1, fun M => ?_⟩
    unfold ptL
    split
    · simp [exp, Tm.prt] at h2
    · rfl
theorem two_rows (w : World) : Mem w [] ((w.alloc (.cells #[] 3)).alloc (.cells #[] 3)) [own 3 (.slice (some ⟨w.heap.size, 0, none⟩) 0 0) (ints (([] : List Nat))), own 3 (.slice (some ⟨w.heap.size + 1, 0, none⟩) 0 0) (ints ([] : List Nat))] := by
  have h1 := (Mem.start w).newOwn (E := 3) (Owns.new w w.heap.size 3 [] (Nat.le_refl _) (by decide)) ((Below.refl _ _).alloc (Nat.le_refl _) _)
  have h2 := h1.newOwn (E := 3) (Owns.new (w.alloc (.cells #[] 3)) (w.alloc (.cells #[] 3)).heap.size 3 [] (Nat.le_refl _) (by decide)) ((Below.refl _ _).alloc (Nat.le_refl _) _)
  rw [World.size_alloc] at h2
  exact h2
theorem three_rows {w W : World} {P R : Asn} (h : Mem w [] W [P, R]) : Mem w [] (((W.alloc (.cells #[] 9)).alloc (.cells #[] 84)).alloc (.cells #[] 84)) [P, R, own 9 (.slice (some ⟨W.heap.size, 0, none⟩) 0 0) [], own 84 (.slice (some ⟨W.heap.size + 1, 0, none⟩) 0 0) [], own 84 (.slice (some ⟨W.heap.size + 1 + 1, 0, none⟩) 0 0) [], many []] := by
  have h1 := h.newOwn (E := 9) (Owns.new W W.heap.size 9 [] (Nat.le_refl _) (by decide)) ((Below.refl _ _).alloc (Nat.le_refl _) _)
  have h2 := h1.newOwn (E := 84) (Owns.new (W.alloc (.cells #[] 9)) (W.alloc (.cells #[] 9)).heap.size 84 [] (Nat.le_refl _) (by decide)) ((Below.refl _ _).alloc (Nat.le_refl _) _)
  have h3 := h2.newOwn (E := 84) (Owns.new ((W.alloc (.cells #[] 9)).alloc (.cells #[] 84)) ((W.alloc (.cells #[] 9)).alloc (.cells #[] 84)).heap.size 84 [] (Nat.le_refl _) (by decide)) ((Below.refl _ _).alloc (Nat.le_refl _) _)
  simp only [World.size_alloc, List.length_nil] at h3
  exact h3.manyNil
theorem absorb2 {w0 w : World} {L M : List Asn} {P R : Asn} (h : Mem w0 [] w (L ++ [many M, P, R])) : Mem w0 [] w (L ++ [many (M ++ [P] ++ [R])]) := by
  have h1 : Mem w0 [] w ((L ++ [R]) ++ [many M, P]) := h.perm (by
    rw [List.append_assoc]
    exact (List.perm_append_comm (l₁ := [many M, P]) (l₂ := [R])).append_left L)
  have h2 := Mem.absorb h1
  have h3 : Mem w0 [] w (L ++ [many (M ++ [P]), R]) := h2.perm (by
    rw [List.append_assoc]
    exact (List.perm_append_comm (l₁ := [R]) (l₂ := [many (M ++ [P])])).append_left L)
  exact Mem.absorb h3
/-- what stands at hand for the first k of M -/
structure Tb (M : List Tm) (k : Nat) (pl ql : List Value) (MM : List Asn) : Prop where
  pk : pl.length = k
  qk : ql.length = k
  at_ : ∀ (i : Nat) (t : Tm) (p q : Value), M[i]? = some t → pl[i]? = some p → ql[i]? = some q → own 3 p (ints (psL M t)) ∈ MM ∧ own 3 q (ints (ptL M t)) ∈ MM
theorem Tb.start (M : List Tm) : Tb M 0 [] [] [] := ⟨rfl, rfl, fun i t p q _ h => by simp at h⟩
theorem Tb.snoc {M : List Tm} {k : Nat} {pl ql : List Value} {MM : List Asn} (h : Tb M k pl ql MM) {t : Tm} (ht : M[k]? = some t) (p q : Value) : Tb M (k + 1) (pl ++ [p]) (ql ++ [q]) (MM ++ [own 3 p (ints (psL M t))] ++ [own 3 q (ints (ptL M t))]) := by
  refine ⟨by simp [h.pk], by simp [h.qk], fun i u p' q' hu hp hq => ?_⟩
  by_cases hi : i < k
  · rw [List.getElem?_append_left (by rw [h.pk]; exact hi)] at hp
    rw [List.getElem?_append_left (by rw [h.qk]; exact hi)] at hq
    have := h.at_ i u p' q' hu hp hq
    exact ⟨by simp [this.1], by simp [this.2]⟩
  · have hik : i = k := by
      have := (List.getElem?_eq_some_iff.1 hp).1
      simp [h.pk] at this
      omega
    subst hik
    rw [ht] at hu
    obtain rfl := Option.some.inj hu
    rw [List.getElem?_append_right (by rw [h.pk]; exact Nat.le_refl _), h.pk, Nat.sub_self] at hp
    rw [List.getElem?_append_right (by rw [h.qk]; exact Nat.le_refl _), h.qk, Nat.sub_self] at hq
    simp at hp hq
    subst hp hq
    exact ⟨by simp, by simp⟩
theorem Tb.formp {M : List Tm} {k : Nat} {pl ql : List Value} {MM L : List Asn} {w W : World} (h : Tb M k pl ql MM) (hm : Mem w [] W L) (hL : L[5]? = some (many MM)) {i : Nat} {t : Tm} {p q : Value} (ht : M[i]? = some t) (hp : pl[i]? = some p) (hq : ql[i]? = some q) : ∃ A c, p = .slice A t.prt.length c := by
  obtain ⟨A, c, e, _⟩ := (many_own hm hL (h.at_ i t p q ht hp hq).1).form
  exact ⟨A, c, by rw [e, ints_len]; unfold psL; rw [List.length_map]⟩
theorem Tb.formq {M : List Tm} {k : Nat} {pl ql : List Value} {MM L : List Asn} {w W : World} (h : Tb M k pl ql MM) (hm : Mem w [] W L) (hL : L[5]? = some (many MM)) {i : Nat} {t : Tm} {p q : Value} (ht : M[i]? = some t) (hp : pl[i]? = some p) (hq : ql[i]? = some q) : ∃ A c, q = .slice A (ptL M t).length c := by
  obtain ⟨A, c, e, _⟩ := (many_own hm hL (h.at_ i t p q ht hp hq).2).form
  exact ⟨A, c, by rw [e, ints_len]⟩
theorem Tb.rdp {M : List Tm} {k : Nat} {pl ql : List Value} {MM L : List Asn} {w W : World} (h : Tb M k pl ql MM) (hm : Mem w [] W L) (hL : L[5]? = some (many MM)) {i n c : Nat} {t : Tm} {A : Option Addr} {q : Value} (ht : M[i]? = some t) (hp : pl[i]? = some (.slice A n c)) (hq : ql[i]? = some q) : Rd W A (ints (psL M t)) :=
  own_rd (many_own hm hL (h.at_ i t _ q ht hp hq).1)
theorem Tb.rdq {M : List Tm} {k : Nat} {pl ql : List Value} {MM L : List Asn} {w W : World} (h : Tb M k pl ql MM) (hm : Mem w [] W L) (hL : L[5]? = some (many MM)) {i n c : Nat} {t : Tm} {A : Option Addr} {p : Value} (ht : M[i]? = some t) (hp : pl[i]? = some p) (hq : ql[i]? = some (.slice A n c)) : Rd W A (ints (ptL M t)) :=
  own_rd (many_own hm hL (h.at_ i t p _ ht hp hq).2)
theorem infoI : (Tryd.prog.info? 3).map (fun i => (i.zero, i.size, i.bytes)) = some (some (.int .i64 0), 1, 8) := by kernel_rfl
theorem infoSI : (Tryd.prog.info? 84).map (fun i => (i.zero, i.size, i.bytes)) = some (some (.slice none 0 0), 1, 24) := by kernel_rfl
theorem infoBo : (Tryd.prog.info? 4).map (fun i => (i.zero, i.size, i.bytes)) = some (some (.bool false), 1, 1) := by kernel_rfl
set_option maxRecDepth 20000 in
set_option maxHeartbeats 8000000 in
theorem RDerived_any (w : World) (A : Option Addr) (n c : Nat) (L : List Tm) (hn : L.length = n) (hR : Rd w A (txts L)) (A2 : Option Addr) (n2 c2 : Nat) (Q : List Tm) (hn2 : Q.length = n2) (hR2 : Rd w A2 (txts Q)) (hL : ∀ t ∈ L ++ Q, t.wf ∧ t.txt.length ≤ 100) (hl : n + n2 ≤ 20) : Calls Tryd.prog 38 #[.slice A n c, .slice A2 n2 c2] w fun e w' => ∃ v D M, e = .returned v ∧ Owns w' w.heap.size 9 v (txts D) ∧ Clo M ∧ (∀ t ∈ L ++ Q, t ∈ M) ∧ (∀ t ∈ M, t.wf ∧ t.txt.length ≤ 200) ∧ (∀ t, t ∈ D ↔ t ∈ M ∧ Der (· ∈ L) t) ∧ D.length ≤ 4000 ∧ Below w.heap.size w w' := by
  have HR := Lib.hid hR
  have HR2 := Lib.hid hR2
  have HLn := Lib.hid (show (txts L).length = n by rw [txts_len]; exact hn)
  have HLn2 := Lib.hid (show (txts Q).length = n2 by rw [txts_len]; exact hn2)
  have HLQ := Lib.hid (show (L ++ Q).length = n + n2 by rw [List.length_append, hn, hn2])
  have HFIT := Lib.hid hL
  have HLN := Lib.hid hn
  have hl0 : n ≤ 20 := by omega
  have HL20 := Lib.hid hl
  clear hR hR2 hn hn2 hL
  go_enter Tryd.func38, Tryd.ntmps38
  have HO0 := Lib.hid (Owns.new w w.heap.size 9 [] (Nat.le_refl _) (by decide))
  have HB0 := Lib.hid (show Below w.heap.size w (w.alloc (.cells #[] 9)) from (Below.refl _ _).alloc (Nat.le_refl _) _)
  rw [show ([] : List Value).toArray = #[] from rfl] at HO0
  have tokA := True.intro
  go_upto_region 2 with (first
    | (have _t := tokA; refine app rfl _ _ 22 rfl Tryd.underlying22 infoS rfl (by decide) HO0.out rfl rfl HLn.out (HR.out.below HB0.out) (by intro u hu; obtain ⟨s, rfl⟩ := txts_str _ u hu; rfl) (by simp; omega) (by simp) ?_; intro v1 w1 h2 h3 h4; rw [List.nil_append] at h2; skip; have HO1 := Lib.hid h2; have HB1 := Lib.hid (own_grown HB0.out HO0.out h3); clear h2 h3 h4 _t tokA; have tokB := True.intro)
    | (have _t := tokB; refine app rfl _ _ 22 rfl Tryd.underlying22 infoS rfl (by decide) HO1.out rfl rfl HLn2.out (HR2.out.below HB1.out) (by intro u hu; obtain ⟨s, rfl⟩ := txts_str _ u hu; rfl) (by rw [HLn.out]; have := HL20.out; omega) HB1.out.size ?_; intro v2 w2 h2 h3 h4; rw [txts_app] at h2; obtain ⟨A3, c3, hv2, hr3, _⟩ := id h2.form; subst hv2; rw [txts_len, HLQ.out]; skip; have HR3 := Lib.hid hr3; have HB2 := Lib.hid (own_grown HB1.out HO1.out h3); clear h2 h3 h4 hr3 _t tokB)
    | (go_at_call 48; refine (RAll_any _ A3 (n + n2) c3 (L ++ Q) HLQ.out HR3.out HFIT.out HL20.out).mono ?_; rintro e w3 ⟨v5, M, rfl, ho, hnd, hwf, hall, hclo, hml, hb⟩; obtain ⟨A5, c5, hv5, _, _⟩ := id ho.form; subst hv5; rw [txts_len]; skip; have HM := Lib.hid ((Mem.of_below HB2.out).newOwn ho hb); have HND := Lib.hid hnd; have HWF := Lib.hid hwf; have HALL := Lib.hid hall; have HCL := Lib.hid hclo; have HML := Lib.hid hml; clear ho hnd hwf hall hclo hml hb))
  rw [List.nil_append, txts_len] at HM
  obtain ⟨m, hm⟩ : ∃ m, M.length = m := ⟨_, rfl⟩
  rw [hm] at HM ⊢
  have HMN := Lib.hid hm
  have hm4 : m ≤ 4000 := by rw [← hm]; exact HML.out
  clear hm HO0 HB0 HO1 HB1 HB2 HR3
  obtain ⟨ib, hib, hib0, hib1, hib2⟩ := info_parts infoBo
  have hbb : ib.bytes * m ≤ 281474976710656 := by rw [hib2]; omega
  have hmx : m ≤ maxLen := by simp only [maxLen]; omega
  go_wp2_with (at_make; refine wpList_make_full _ rfl _ _ 82 rfl 0 4 ib (.bool false) 1 Tryd.underlying82 hib hib0 hib1 _ _ _ _ m rfl rfl rfl rfl hbb hmx (Nat.zero_le _) ?_)
  intro w4 h2 h3
  have hbl := made_blk h2
  have HM2 := Lib.hid (mem_made HM.out hbl h3)
  clear h2 h3 hbl
  go_wp2
  generalize w3.heap.size = hb at *
  clear HM hib hib0 hib1 hib2 hbb hmx
  have HAT := Lib.hid (fun W (hW : Rd W A5 (txts M)) (t : Tm) (ht : t ∈ M) => show Calls Tryd.prog 37 #[.slice A5 m c5, .string (strB t.txt)] W fun e w' => e = .returned (.int .i64 (pos M t : Nat)) ∧ W = w' from by
    have h := RAt_any W A5 m c5 (M.map Tm.txt) t.txt (by rw [List.length_map]; exact HMN.out) hW (by omega)
    rw [idx_txt (fun u hu => (HWF.out u hu).1) (HWF.out t ht).1, if_pos ht] at h
    exact h)
  go_loopw [43] (fun i wr => ∃ (k : Nat) (hs : List Bool), k ≤ n ∧ i = .int .i64 k ∧ Mem w [] wr [own 9 (.slice A5 m c5) (txts M), blk hb 4 (bools hs)] ∧ hs.length = m ∧ ∀ t, t ∈ hadL M hs ↔ t ∈ L.take k) (fun i _ => n - (intOf i).toNat)
  case atStart => exact ⟨0, List.replicate m false, Nat.zero_le _, rfl, HM2.out, by simp, fun t => by simp [hadL_none]⟩
  case round =>
    obtain ⟨k, hs, hk, rfl, hm, hsl, hhad⟩ := hrel
    clear HM2
    have HM := Lib.hid hm
    have HSL := Lib.hid hsl
    have HHAD := Lib.hid hhad
    clear hm hsl hhad
    have HBK := Lib.hid (HM.out.blk 1 rfl)
    have HR5 := Lib.hid (own_rd (HM.out.own 0 rfl))
    have HRL := Lib.hid (HM.out.rd HR.out)
    by_cases hkn : k < n
    · have hd : decide (k < n) = true := by simp; exact hkn
      have hki : (k : Int) < n := by omega
      have hk0 : (0 : Int) ≤ k := by omega
      obtain ⟨t, ht⟩ : ∃ t, L[k]? = some t := ⟨_, List.getElem?_eq_getElem (by rw [HLN.out]; exact hkn)⟩
      obtain ⟨b0, o0, rfl, -, hc0⟩ := HRL.out k _ (txts_get ht)
      have htM := HALL.out t (List.mem_append_left _ (List.mem_of_getElem? ht))
      have HT := Lib.hid ht
      have HPA := Lib.hid (pos_at htM)
      have HA1 := Lib.hid (HAT.out wr HR5.out t htM)
      have hpl := pos_lt htM
      rw [HMN.out] at hpl
      generalize pos M t = p at *
      have HPL := Lib.hid (show p < hs.length by rw [HSL.out]; exact hpl)
      have hp0 : (0 : Int) ≤ p := by omega
      have hpm : (p : Int) < m := by omega
      clear ht htM
      go_wp2_with (first
        | (go_at_call 37; refine HA1.out.mono ?_; rintro e w5 ⟨rfl, rfl⟩; skip)
        | (refine store_bool rfl 4 _ _ rfl (b := hb) (j := p) (v := true) rfl rfl Tryd.underlying4 (by kernel_rfl) HBK.out HPL.out ?_; intro V hV hgV; have HMV := Lib.hid (HM.out.store 1 rfl hV hgV); clear hV hgV))
      go_roundw
      case rel =>
        have REL := Lib.hid (show ∃ (k' : Nat) (hs' : List Bool), k' ≤ n ∧ Value.int .i64 ((k : Int) + 1) = .int .i64 k' ∧ Mem w [] V [own 9 (.slice A5 m c5) (txts M), blk hb 4 (bools hs')] ∧ hs'.length = m ∧ ∀ t, t ∈ hadL M hs' ↔ t ∈ L.take k' from ⟨k + 1, hs.set p true, hkn, rfl, HMV.out, by rw [List.length_set]; exact HSL.out, fun u => by
          rw [had_set HND.out (by rw [HSL.out, HMN.out]) HPA.out, HHAD.out, List.take_add_one, HT.out]
          simp [eq_comm]⟩)
        first
          | exact REL.out
          | ((repeat apply Exists.intro); refine ⟨?_, rfl⟩; exact REL.out)
      case measure => (first | (simp [intOf]; done) | (simp [intOf]; omega))
    · obtain rfl : k = n := by omega
      have hd : decide (k < k) = false := by simp
      have HHL := Lib.hid (show ∀ t, t ∈ hadL M hs ↔ t ∈ L from fun t => by rw [HHAD.out, List.take_of_length_le (by rw [HLN.out]; exact Nat.le_refl _)])
      clear HHAD HRL HBK HR5
      as_aux_lemma =>
        go_upto_region 12 with fail
        have HM3 := Lib.hid (three_rows HM.out)
        generalize ((wr.alloc (.cells #[] 9)).alloc (.cells #[] 84)).alloc (.cells #[] 84) = X at *
        clear HM
        go_loopw [9, 10, 11, 58] (fun v9 v10 v11 i wx => ∃ (k : Nat) (pl ql : List Value) (MM : List Asn), k ≤ m ∧ i = .int .i64 k ∧ Tb M k pl ql MM ∧ Mem w [] wx [own 9 (.slice A5 m c5) (txts M), blk hb 4 (bools hs), own 9 v9 ((M.take k).map kndV), own 84 v10 pl, own 84 v11 ql, many MM]) (fun _ _ _ i _ => m - (intOf i).toNat)
        case atStart => exact ⟨0, [], [], [], Nat.zero_le _, rfl, Tb.start M, HM3.out⟩
        case round =>
          obtain ⟨k, pl, ql, MM, hkm, rfl, htb, hm⟩ := hrel
          clear HM3
          have HM := Lib.hid hm
          have HTB := Lib.hid htb
          clear hm htb
          have HR5 := Lib.hid (own_rd (HM.out.own 0 rfl))
          by_cases hkm2 : k < m
          · have hd : decide (k < m) = true := by simp; exact hkm2
            have hki : (k : Int) < m := by omega
            have hk0 : (0 : Int) ≤ k := by omega
            obtain ⟨t, ht⟩ : ∃ t, M[k]? = some t := ⟨_, List.getElem?_eq_getElem (by rw [HMN.out]; exact hkm2)⟩
            obtain ⟨b0, o0, rfl, -, hc0⟩ := HR5.out k _ (txts_get ht)
            have HT := Lib.hid ht
            have htM := List.mem_of_getElem? ht
            have HTM := Lib.hid htM
            have HTF := Lib.hid (HWF.out t htM)
            have HSP := Lib.hid (Split_txt t HTF.out.1 (by have := HTF.out.2; omega))
            obtain ⟨np, hnp⟩ : ∃ np, t.prt.length = np := ⟨_, rfl⟩
            have HNP := Lib.hid hnp
            have hnp2 : np ≤ 2 := hnp ▸ prt_le t
            clear ht htM hnp
            go_upto_region 15 with (go_at_call 18; refine (HSP.out _).mono ?_; rintro e w5 ⟨v15, rfl, ho, hb⟩; obtain ⟨A15, c15, hv15, hr15, _⟩ := id ho.form; subst hv15; rw [List.length_map, List.length_map, HNP.out]; skip; have HM5 := Lib.hid (HM.out.below hb); have HR15 := Lib.hid hr15; have HR55 := Lib.hid (HR5.out.below hb); clear ho hb hr15)
            clear hc0 HM HR5
            go_upto_region 18 with fail
            have HI := Lib.hid (two_rows w5)
            generalize (w5.alloc (.cells #[] 3)).alloc (.cells #[] 3) = Y at *
            have HQL := Lib.hid (show ∀ u ∈ t.prt, u ∈ M from fun u hu => HCL.out t HTM.out u (prt_exp hu))
            rcases sh_cases HTF.out.1 with ⟨hsh, hq, hx⟩ | ⟨hsh, hq⟩
            · have HQ := Lib.hid (hq M)
              have HXP := Lib.hid (show ∀ u ∈ t.prt, Tm.one 1 u ∈ M from fun u hu => HCL.out t HTM.out _ (hx u hu))
              clear hq hx
              go_loopw [16, 17, 71] (fun v16 v17 i wy => ∃ j : Nat, j ≤ np ∧ i = .int .i64 j ∧ Mem w5 [] wy [own 3 v16 (ints ((psL M t).take j)), own 3 v17 (ints ((ptL M t).take j))]) (fun _ _ i _ => np - (intOf i).toNat)
              case atStart => exact ⟨0, Nat.zero_le _, rfl, HI.out⟩
              case round =>
                obtain ⟨j, hj, rfl, hm⟩ := hrel
                clear HI
                have HI := Lib.hid hm
                clear hm
                by_cases hjn : j < np
                · have hd2 : decide (j < np) = true := by simp; exact hjn
                  have hji : (j : Int) < np := by omega
                  have hj0 : (0 : Int) ≤ j := by omega
                  obtain ⟨u, hu⟩ : ∃ u, t.prt[j]? = some u := ⟨_, List.getElem?_eq_getElem (by rw [HNP.out]; exact hjn)⟩
                  obtain ⟨b1, o1, rfl, -, hc1⟩ := (HR15.out.below HI.out.bel) j (.string (strB u.txt)) (by rw [List.getElem?_map, List.getElem?_map, hu]; rfl)
                  have huM := HQL.out u (List.mem_of_getElem? hu)
                  have HU := Lib.hid hu
                  have HA1 := Lib.hid (fun W (hW : Below w5.heap.size w5 W) => HAT.out W (HR55.out.below hW) u huM)
                  have HPS := Lib.hid (ps_step (M := M) hu)
                  have HSZ1 := Lib.hid (show ((ints ((psL M t).take j)).length + 1) * 8 ≤ 140737488355328 by rw [ints_len, List.length_take]; omega)
                  have HSZ2 := Lib.hid (show ((ints ((ptL M t).take j)).length + 1) * 8 ≤ 140737488355328 by rw [ints_len, List.length_take]; omega)
                  have hsu : (strB u.txt).size ≤ 1000 := by rw [strB_size]; have := (HWF.out u huM).2; omega
                  have HA2 := Lib.hid (fun W (hW : Below w5.heap.size w5 W) => show Calls Tryd.prog 37 #[.slice (some ⟨b0, o0, none⟩) m c5, .string (⟨#[112, 111, 105, 110, 116, 40]⟩ ++ strB u.txt ++ ⟨#[41]⟩)] W fun e w' => e = .returned (.int .i64 (pos M (.one 1 u) : Nat)) ∧ W = w' from by rw [pt_txt]; exact HAT.out W (HR55.out.below hW) (.one 1 u) (HXP.out u (List.mem_of_getElem? hu)))
                  have HPT := Lib.hid (show (ptL M t).take j ++ [pos M (.one 1 u)] = (ptL M t).take (j + 1) from by rw [HQ.out, List.take_add_one, List.getElem?_map, hu]; rfl)
                  have tok1 := True.intro
                  clear hu huM
                  go_wp2_with (first
                    | (go_at_call 37; have _t := tok1; refine (HA1.out _ HI.out.bel).mono ?_; rintro e w6 ⟨rfl, rfl⟩; skip; have tok2 := True.intro; clear _t tok1)
                    | (refine app1 rfl _ _ 84 rfl (E := 3) (z := .int .i64 0) (by' := 8) rfl rfl rfl (by decide) (HI.out.own 0 rfl) rfl rfl rfl HSZ1.out (Nat.zero_le _) ?_; intro v7 w7 h2 h3 h4; skip; have HX7 := Lib.hid (HI.out.app 0 rfl h2 h3 (h4.imp id fun e => ⟨_, e, Nat.le_succ _⟩)); clear h2 h3 h4)
                    | (go_at_call 37; have _t := tok2; refine (HA2.out _ HX7.out.bel).mono ?_; rintro e w6 ⟨rfl, rfl⟩; skip; clear _t tok2)
                    | (refine app1 rfl _ _ 84 rfl (E := 3) (z := .int .i64 0) (by' := 8) rfl rfl rfl (by decide) (HX7.out.own 1 rfl) rfl rfl rfl HSZ2.out (Nat.zero_le _) ?_; intro v8 w8 h2 h3 h4; skip; have HX8 := Lib.hid (HX7.out.app 1 rfl h2 h3 (h4.imp id fun e => ⟨_, e, Nat.le_succ _⟩)); clear h2 h3 h4))
                  go_roundw
                  case rel =>
                    have REL := Lib.hid (show ∃ j' : Nat, j' ≤ np ∧ Value.int .i64 ((j : Int) + 1) = .int .i64 j' ∧ Mem w5 [] w8 [own 3 v7 (ints ((psL M t).take j')), own 3 v8 (ints ((ptL M t).take j'))] from ⟨j + 1, hjn, rfl, by have h : Mem w5 [] w8 [own 3 v7 (ints ((psL M t).take j) ++ [.int .i64 (pos M u : Nat)]), own 3 v8 (ints ((ptL M t).take j) ++ [.int .i64 (pos M (.one 1 u) : Nat)])] := HX8.out; rw [ints_snoc, ints_snoc, HPS.out, HPT.out] at h; exact h⟩)
                    first
                      | exact REL.out
                      | ((repeat apply Exists.intro); refine ⟨?_, rfl⟩; exact REL.out)
                  case measure => (first | (simp [intOf]; done) | (simp [intOf]; omega))
                · obtain rfl : j = np := by omega
                  have hd2 : decide (j < j) = false := by simp
                  have hmi := HI.out
                  rw [List.take_of_length_le (by unfold psL; rw [List.length_map, HNP.out]; exact Nat.le_refl _), List.take_of_length_le (by rw [← HNP.out]; exact pt_le M t)] at hmi
                  obtain ⟨A16, c16, hv16, _, _⟩ := (hmi.own 0 rfl).form
                  obtain ⟨A17, c17, hv17, _, _⟩ := (hmi.own 1 rfl).form
                  have HM6 := Lib.hid (HM5.out.call0 hmi)
                  have HV16 := Lib.hid hv16
                  have HV17 := Lib.hid hv17
                  rw [hv16, hv17]
                  rw [hv16, hv17] at HM6
                  have HS3 := Lib.hid (show (((M.take k).map kndV).length + 1) * 16 ≤ 140737488355328 by rw [List.length_map, List.length_take]; omega)
                  have HS4 := Lib.hid (show (pl.length + 1) * 24 ≤ 140737488355328 by rw [HTB.out.pk]; omega)
                  have HS5 := Lib.hid (show (ql.length + 1) * 24 ≤ 140737488355328 by rw [HTB.out.qk]; omega)
                  clear hmi hv16 hv17 HI
                  have tok1 := True.intro
                  go_wp2_with (first
                    | (refine app1 rfl _ _ 22 rfl (E := 9) (z := .string ⟨#[]⟩) (by' := 16) rfl rfl rfl (by decide) (HM6.out.own 2 rfl) rfl rfl rfl HS3.out (Nat.zero_le _) ?_; intro v20 w20 h2 h3 h4; skip; have HX20 := Lib.hid (HM6.out.app 2 rfl h2 h3 (h4.imp id fun e => ⟨_, e, Nat.le_succ _⟩)); clear h2 h3 h4)
                    | (refine app1 rfl _ _ 83 rfl (E := 84) (z := .slice none 0 0) (by' := 24) rfl rfl rfl (by decide) (HX20.out.own 3 rfl) rfl rfl rfl HS4.out (Nat.zero_le _) ?_; intro v21 w21 h2 h3 h4; skip; have HX21 := Lib.hid (HX20.out.app 3 rfl h2 h3 (h4.imp id fun e => ⟨_, e, Nat.le_succ _⟩)); clear h2 h3 h4)
                    | (refine app1 rfl _ _ 83 rfl (E := 84) (z := .slice none 0 0) (by' := 24) rfl rfl rfl (by decide) (HX21.out.own 4 rfl) rfl rfl rfl HS5.out (Nat.zero_le _) ?_; intro v22 w22 h2 h3 h4; skip; have HX22 := Lib.hid (HX21.out.app 4 rfl h2 h3 (h4.imp id fun e => ⟨_, e, Nat.le_succ _⟩)); clear h2 h3 h4))
                  go_roundw
                  case rel =>
                    have REL := Lib.hid (show ∃ (k' : Nat) (pl' ql' : List Value) (MM' : List Asn), k' ≤ m ∧ Value.int .i64 ((k : Int) + 1) = .int .i64 k' ∧ Tb M k' pl' ql' MM' ∧ Mem w [] w22 [own 9 (.slice (some ⟨b0, o0, none⟩) m c5) (txts M), blk hb 4 (bools hs), own 9 v20 ((M.take k').map kndV), own 84 v21 pl', own 84 v22 ql', many MM'] from ⟨k + 1, _, _, _, hkm2, rfl, HTB.out.snoc HT.out _ _, by
                      have h : Mem w [] w22 ([own 9 (.slice (some ⟨b0, o0, none⟩) m c5) (txts M), blk hb 4 (bools hs), own 9 v20 ((M.take k).map kndV ++ [kndV t]), own 84 v21 (pl ++ [.slice A16 (ints (psL M t)).length c16]), own 84 v22 (ql ++ [.slice A17 (ints (ptL M t)).length c17])] ++ [many MM, own 3 (.slice A16 (ints (psL M t)).length c16) (ints (psL M t)), own 3 (.slice A17 (ints (ptL M t)).length c17) (ints (ptL M t))]) := HX22.out
                      rw [kndV_step HT.out] at h
                      exact absorb2 h⟩)
                    first
                      | exact REL.out
                      | ((repeat apply Exists.intro); refine ⟨?_, rfl⟩; exact REL.out)
                  case measure => (first | (simp [intOf]; done) | (simp [intOf]; omega))
            · have HQ := Lib.hid (hq M)
              clear hq
              go_loopw [16, 17, 71] (fun v16 v17 i wy => ∃ j : Nat, j ≤ np ∧ i = .int .i64 j ∧ Mem w5 [] wy [own 3 v16 (ints ((psL M t).take j)), own 3 v17 (ints ((ptL M t).take j))]) (fun _ _ i _ => np - (intOf i).toNat)
              case atStart => exact ⟨0, Nat.zero_le _, rfl, HI.out⟩
              case round =>
                obtain ⟨j, hj, rfl, hm⟩ := hrel
                clear HI
                have HI := Lib.hid hm
                clear hm
                by_cases hjn : j < np
                · have hd2 : decide (j < np) = true := by simp; exact hjn
                  have hji : (j : Int) < np := by omega
                  have hj0 : (0 : Int) ≤ j := by omega
                  obtain ⟨u, hu⟩ : ∃ u, t.prt[j]? = some u := ⟨_, List.getElem?_eq_getElem (by rw [HNP.out]; exact hjn)⟩
                  obtain ⟨b1, o1, rfl, -, hc1⟩ := (HR15.out.below HI.out.bel) j (.string (strB u.txt)) (by rw [List.getElem?_map, List.getElem?_map, hu]; rfl)
                  have huM := HQL.out u (List.mem_of_getElem? hu)
                  have HU := Lib.hid hu
                  have HA1 := Lib.hid (fun W (hW : Below w5.heap.size w5 W) => HAT.out W (HR55.out.below hW) u huM)
                  have HPS := Lib.hid (ps_step (M := M) hu)
                  have HSZ1 := Lib.hid (show ((ints ((psL M t).take j)).length + 1) * 8 ≤ 140737488355328 by rw [ints_len, List.length_take]; omega)
                  have HSZ2 := Lib.hid (show ((ints ((ptL M t).take j)).length + 1) * 8 ≤ 140737488355328 by rw [ints_len, List.length_take]; omega)
                  have hsu : (strB u.txt).size ≤ 1000 := by rw [strB_size]; have := (HWF.out u huM).2; omega
                  clear hu huM
                  go_wp2_with (first
                    | (go_at_call 37; refine (HA1.out _ HI.out.bel).mono ?_; rintro e w6 ⟨rfl, rfl⟩; skip)
                    | (refine app1 rfl _ _ 84 rfl (E := 3) (z := .int .i64 0) (by' := 8) rfl rfl rfl (by decide) (HI.out.own 0 rfl) rfl rfl rfl HSZ1.out (Nat.zero_le _) ?_; intro v7 w7 h2 h3 h4; skip; have HX7 := Lib.hid (HI.out.app 0 rfl h2 h3 (h4.imp id fun e => ⟨_, e, Nat.le_succ _⟩)); clear h2 h3 h4))
                  go_roundw
                  case rel =>
                    have REL := Lib.hid (show ∃ j' : Nat, j' ≤ np ∧ Value.int .i64 ((j : Int) + 1) = .int .i64 j' ∧ Mem w5 [] w7 [own 3 v7 (ints ((psL M t).take j')), own 3 _ (ints ((ptL M t).take j'))] from ⟨j + 1, hjn, rfl, by have h := HX7.out; rw [ints_snoc, HPS.out] at h; rw [HQ.out] at h ⊢; rw [List.take_nil] at h ⊢; exact h⟩)
                    first
                      | exact REL.out
                      | ((repeat apply Exists.intro); refine ⟨?_, rfl⟩; exact REL.out)
                  case measure => (first | (simp [intOf]; done) | (simp [intOf]; omega))
                · obtain rfl : j = np := by omega
                  have hd2 : decide (j < j) = false := by simp
                  have hmi := HI.out
                  rw [List.take_of_length_le (by unfold psL; rw [List.length_map, HNP.out]; exact Nat.le_refl _), List.take_of_length_le (by rw [← HNP.out]; exact pt_le M t)] at hmi
                  obtain ⟨A16, c16, hv16, _, _⟩ := (hmi.own 0 rfl).form
                  obtain ⟨A17, c17, hv17, _, _⟩ := (hmi.own 1 rfl).form
                  have HM6 := Lib.hid (HM5.out.call0 hmi)
                  have HV16 := Lib.hid hv16
                  have HV17 := Lib.hid hv17
                  rw [hv16, hv17]
                  rw [hv16, hv17] at HM6
                  have HS3 := Lib.hid (show (((M.take k).map kndV).length + 1) * 16 ≤ 140737488355328 by rw [List.length_map, List.length_take]; omega)
                  have HS4 := Lib.hid (show (pl.length + 1) * 24 ≤ 140737488355328 by rw [HTB.out.pk]; omega)
                  have HS5 := Lib.hid (show (ql.length + 1) * 24 ≤ 140737488355328 by rw [HTB.out.qk]; omega)
                  clear hmi hv16 hv17 HI
                  have tok1 := True.intro
                  go_wp2_with (first
                    | (refine app1 rfl _ _ 22 rfl (E := 9) (z := .string ⟨#[]⟩) (by' := 16) rfl rfl rfl (by decide) (HM6.out.own 2 rfl) rfl rfl rfl HS3.out (Nat.zero_le _) ?_; intro v20 w20 h2 h3 h4; skip; have HX20 := Lib.hid (HM6.out.app 2 rfl h2 h3 (h4.imp id fun e => ⟨_, e, Nat.le_succ _⟩)); clear h2 h3 h4)
                    | (refine app1 rfl _ _ 83 rfl (E := 84) (z := .slice none 0 0) (by' := 24) rfl rfl rfl (by decide) (HX20.out.own 3 rfl) rfl rfl rfl HS4.out (Nat.zero_le _) ?_; intro v21 w21 h2 h3 h4; skip; have HX21 := Lib.hid (HX20.out.app 3 rfl h2 h3 (h4.imp id fun e => ⟨_, e, Nat.le_succ _⟩)); clear h2 h3 h4)
                    | (refine app1 rfl _ _ 83 rfl (E := 84) (z := .slice none 0 0) (by' := 24) rfl rfl rfl (by decide) (HX21.out.own 4 rfl) rfl rfl rfl HS5.out (Nat.zero_le _) ?_; intro v22 w22 h2 h3 h4; skip; have HX22 := Lib.hid (HX21.out.app 4 rfl h2 h3 (h4.imp id fun e => ⟨_, e, Nat.le_succ _⟩)); clear h2 h3 h4))
                  go_roundw
                  case rel =>
                    have REL := Lib.hid (show ∃ (k' : Nat) (pl' ql' : List Value) (MM' : List Asn), k' ≤ m ∧ Value.int .i64 ((k : Int) + 1) = .int .i64 k' ∧ Tb M k' pl' ql' MM' ∧ Mem w [] w22 [own 9 (.slice (some ⟨b0, o0, none⟩) m c5) (txts M), blk hb 4 (bools hs), own 9 v20 ((M.take k').map kndV), own 84 v21 pl', own 84 v22 ql', many MM'] from ⟨k + 1, _, _, _, hkm2, rfl, HTB.out.snoc HT.out _ _, by
                      have h : Mem w [] w22 ([own 9 (.slice (some ⟨b0, o0, none⟩) m c5) (txts M), blk hb 4 (bools hs), own 9 v20 ((M.take k).map kndV ++ [kndV t]), own 84 v21 (pl ++ [.slice A16 (ints (psL M t)).length c16]), own 84 v22 (ql ++ [.slice A17 (ints (ptL M t)).length c17])] ++ [many MM, own 3 (.slice A16 (ints (psL M t)).length c16) (ints (psL M t)), own 3 (.slice A17 (ints (ptL M t)).length c17) (ints (ptL M t))]) := HX22.out
                      rw [kndV_step HT.out] at h
                      exact absorb2 h⟩)
                    first
                      | exact REL.out
                      | ((repeat apply Exists.intro); refine ⟨?_, rfl⟩; exact REL.out)
                  case measure => (first | (simp [intOf]; done) | (simp [intOf]; omega))
          · obtain rfl : k = m := by omega
            have hd : decide (k < k) = false := by simp
            as_aux_lemma =>
              have hm9 := HM.out
              rw [List.take_of_length_le (by rw [HMN.out]; exact Nat.le_refl _)] at hm9
              obtain ⟨A9, c9, hv9, _, _⟩ := (hm9.own 2 rfl).form
              obtain ⟨A10, c10, hv10, _, _⟩ := (hm9.own 3 rfl).form
              obtain ⟨A11, c11, hv11, _, _⟩ := (hm9.own 4 rfl).form
              rw [List.length_map, HMN.out] at hv9
              rw [HTB.out.pk] at hv10
              rw [HTB.out.qk] at hv11
              rw [hv9, hv10, hv11] at hm9
              rw [hv9, hv10, hv11]
              clear HM HR5
              have HM := Lib.hid (show Mem w [] wr [own 9 (.slice A5 k c5) (txts M), blk hb 4 (bools hs), own 9 (.slice A9 k c9) (M.map kndV), own 84 (.slice A10 k c10) pl, own 84 (.slice A11 k c11) ql, many MM] from hm9)
              clear hm9 hv9 hv10 hv11
              have HP0 := Lib.hid (show (∀ t ∈ hadL M hs, Der (· ∈ L) t) ∧ ∀ t ∈ L, t ∈ hadL M hs from ⟨fun t ht => .base ((HHL.out t).1 ht), fun t ht => (HHL.out t).2 ht⟩)
              go_upto_region 29 with fail
              clear HHL
              go_loopg [20] (k + 1) (fun kk ch wr => ∃ (hs : List Bool) (cb : Bool), ch = .bool cb ∧ Mem w [] wr [own 9 (.slice A5 k c5) (txts M), blk hb 4 (bools hs), own 9 (.slice A9 k c9) (M.map kndV), own 84 (.slice A10 k c10) pl, own 84 (.slice A11 k c11) ql, many MM] ∧ hs.length = k ∧ (∀ t ∈ hadL M hs, Der (· ∈ L) t) ∧ (∀ t ∈ L, t ∈ hadL M hs) ∧ (cb = true → k - had hs < kk) ∧ (cb = false → ∀ t ∈ M, Quiet (hadL M hs) t))
              case atStart => exact ⟨hs, true, rfl, HM.out, HSL.out, HP0.out.1, HP0.out.2, fun _ => by omega, fun e => by cases e⟩
              case round =>
                obtain ⟨hs, cb, rfl, hm, hsl, hsd, hsp, hkk, hqu⟩ := hrel
                clear HM HSL HP0
                have HM := Lib.hid hm
                have HSL := Lib.hid hsl
                have HSD := Lib.hid hsd
                have HSP := Lib.hid hsp
                have HKK := Lib.hid hkk
                have HQU := Lib.hid hqu
                clear hm hsl hsd hsp hkk hqu
                cases cb with
                | false =>
                  have HFX := Lib.hid (show ∀ t ∈ M, (t ∈ hadL M hs ↔ Der (· ∈ L) t) from fun t ht => fix_der HCL.out (fun u hu => by obtain ⟨j, hj, _⟩ := hadL_mem.1 hu; exact List.mem_of_getElem? hj) HSP.out HSD.out (HQU.out rfl) ht)
                  as_aux_lemma =>
                    go_upto_region 57 with fail
                    have HM3 := Lib.hid (HM.out.newOwn (Owns.new wr wr.heap.size 9 [] (Nat.le_refl _) (by decide)) ((Below.refl _ _).alloc (Nat.le_refl _) _))
                    rw [show ([] : List Value).toArray = #[] from rfl, show ([] : List Value).length = 0 from rfl] at HM3
                    generalize wr.alloc (.cells #[] 9) = X at *
                    clear HM
                    go_loopw [29, 230] (fun v29 i wx => ∃ j : Nat, j ≤ k ∧ i = .int .i64 j ∧ Mem w [] wx ([own 9 (.slice A5 k c5) (txts M), blk hb 4 (bools hs), own 9 (.slice A9 k c9) (M.map kndV), own 84 (.slice A10 k c10) pl, own 84 (.slice A11 k c11) ql, many MM] ++ [own 9 v29 (txts (dj M hs j))])) (fun _ i _ => k - (intOf i).toNat)
                    case atStart => exact ⟨0, Nat.zero_le _, rfl, HM3.out⟩
                    case round =>
                      obtain ⟨j, hj, rfl, hm⟩ := hrel
                      clear HM3
                      have HM := Lib.hid hm
                      clear hm
                      by_cases hjk : j < k
                      · have hdj : decide (j < k) = true := by simp; exact hjk
                        have hjj : (j : Int) < k := by omega
                        have hj0 : (0 : Int) ≤ j := by omega
                        obtain ⟨t, ht⟩ : ∃ t, M[j]? = some t := ⟨_, List.getElem?_eq_getElem (by rw [HMN.out]; exact hjk)⟩
                        obtain ⟨b, hb⟩ : ∃ b, hs[j]? = some b := ⟨_, List.getElem?_eq_getElem (by rw [HSL.out]; exact hjk)⟩
                        obtain ⟨b0, o0, rfl, -, hc0⟩ := (own_rd (HM.out.own 0 rfl)) j _ (txts_get ht)
                        have hcb := (HM.out.blk 1 rfl).cell j (bools_get hb)
                        have HDJ := Lib.hid (dj_step ht hb)
                        have HSZ := Lib.hid (show ((txts (dj M hs j)).length + 1) * 16 ≤ 140737488355328 by rw [txts_len]; have := dj_len M hs j; omega)
                        clear ht hb
                        cases b with
                        | true =>
                          go_wp2_with (refine app1 rfl _ _ 22 rfl (E := 9) (z := .string ⟨#[]⟩) (by' := 16) rfl rfl rfl (by decide) (HM.out.own 6 rfl) rfl rfl rfl HSZ.out (Nat.zero_le _) ?_; intro v7 w7 h2 h3 h4; rw [txts_snoc] at h2; skip; have HX7 := Lib.hid (HM.out.app 6 rfl h2 h3 (h4.imp id fun e => ⟨_, e, Nat.le_succ _⟩)); clear h2 h3 h4)
                          go_roundw
                          case rel =>
                            have REL := Lib.hid (show ∃ j' : Nat, j' ≤ k ∧ Value.int .i64 ((j : Int) + 1) = .int .i64 j' ∧ Mem w [] w7 ([own 9 (.slice (some ⟨b0, o0, none⟩) k c5) (txts M), blk hb 4 (bools hs), own 9 (.slice A9 k c9) (M.map kndV), own 84 (.slice A10 k c10) pl, own 84 (.slice A11 k c11) ql, many MM] ++ [own 9 v7 (txts (dj M hs j'))]) from ⟨j + 1, hjk, rfl, by rw [HDJ.out]; exact HX7.out⟩)
                            first
                              | exact REL.out
                              | ((repeat apply Exists.intro); refine ⟨?_, rfl⟩; exact REL.out)
                          case measure => (first | (simp [intOf]; done) | (simp [intOf]; omega))
                        | false =>
                          go_wp2
                          go_roundw
                          case rel =>
                            have REL := Lib.hid (show ∃ j' : Nat, j' ≤ k ∧ Value.int .i64 ((j : Int) + 1) = .int .i64 j' ∧ Mem w [] wr ([own 9 (.slice (some ⟨b0, o0, none⟩) k c5) (txts M), blk hb 4 (bools hs), own 9 (.slice A9 k c9) (M.map kndV), own 84 (.slice A10 k c10) pl, own 84 (.slice A11 k c11) ql, many MM] ++ [own 9 _ (txts (dj M hs j'))]) from ⟨j + 1, hjk, rfl, by rw [HDJ.out, if_neg (by simp), List.append_nil]; exact HM.out⟩)
                            first
                              | exact REL.out
                              | ((repeat apply Exists.intro); refine ⟨?_, rfl⟩; exact REL.out)
                          case measure => (first | (simp [intOf]; done) | (simp [intOf]; omega))
                      · obtain rfl : j = k := by omega
                        have hdj : decide (j < j) = false := by simp
                        have hmo := HM.out
                        rw [dj_all (by rw [HMN.out]; exact Nat.le_refl _)] at hmo
                        have HMO := Lib.hid hmo
                        clear hmo
                        go_wp2
                        go_ret
                        exact ⟨_, hadL M hs, M, rfl, mem_own_ge HMO.out 6 rfl, HCL.out, HALL.out, HWF.out, fun t => ⟨fun ht => by
                          have hmem : t ∈ M := by obtain ⟨i, hi, _⟩ := hadL_mem.1 ht; exact List.mem_of_getElem? hi
                          exact ⟨hmem, (HFX.out t hmem).1 ht⟩, fun h => (HFX.out t h.1).2 h.2⟩, by have := dj_len M hs j; rw [dj_all (by rw [HMN.out]; exact Nat.le_refl _)] at this; omega, HMO.out.bel⟩
                | true =>
                  have HP := Lib.hid (Ps.start (L := L) (M := M) (hs := hs) (by rw [HSL.out, HMN.out]) HSD.out HSP.out)
                  as_aux_lemma =>
                    go_upto_region 32 with fail
                    go_loopw [20, 108] (fun ch i wr => ∃ (ii : Nat) (h2 : List Bool) (c2 : Bool), ii ≤ k ∧ i = .int .i64 ii ∧ ch = .bool c2 ∧ Mem w [] wr [own 9 (.slice A5 k c5) (txts M), blk hb 4 (bools h2), own 9 (.slice A9 k c9) (M.map kndV), own 84 (.slice A10 k c10) pl, own 84 (.slice A11 k c11) ql, many MM] ∧ Ps L M hs h2 c2 ∧ (c2 = false → ∀ i' t, i' < ii → M[i']? = some t → Quiet (hadL M hs) t)) (fun _ i _ => k - (intOf i).toNat)
                    case atStart => exact ⟨0, hs, false, Nat.zero_le _, rfl, rfl, HM.out, HP.out, fun _ i' t h => by omega⟩
                    case round =>
                      obtain ⟨ii, h2, c2x, hik, rfl, rfl, hm, hp, hq⟩ := hrel
                      clear HM HP
                      have HM := Lib.hid hm
                      have HP := Lib.hid hp
                      have HQ2 := Lib.hid hq
                      clear hm hp hq
                      by_cases hi : ii < k
                      · have hdi : decide (ii < k) = true := by simp; exact hi
                        have hii : (ii : Int) < k := by omega
                        have hi0 : (0 : Int) ≤ ii := by omega
                        obtain ⟨t, ht⟩ : ∃ t, M[ii]? = some t := ⟨_, List.getElem?_eq_getElem (by rw [HMN.out]; exact hi)⟩
                        have HT := Lib.hid ht
                        have htM := List.mem_of_getElem? ht
                        have HTM := Lib.hid htM
                        have HTW := Lib.hid (HWF.out t htM).1
                        obtain ⟨pv, hpv⟩ : ∃ p, pl[ii]? = some p := ⟨_, List.getElem?_eq_getElem (by rw [HTB.out.pk]; exact hi)⟩
                        obtain ⟨qv, hqv⟩ : ∃ q, ql[ii]? = some q := ⟨_, List.getElem?_eq_getElem (by rw [HTB.out.qk]; exact hi)⟩
                        obtain ⟨Ai, ci, rfl⟩ := HTB.out.formp HM.out rfl ht hpv hqv
                        obtain ⟨Bi, di, rfl⟩ := HTB.out.formq HM.out rfl ht hpv hqv
                        obtain ⟨b9, o9, rfl, -, hc9⟩ := (own_rd (HM.out.own 2 rfl)) ii (kndV t) (by rw [List.getElem?_map, ht]; rfl)
                        obtain ⟨b10, o10, rfl, -, hc10⟩ := (own_rd (HM.out.own 3 rfl)) ii _ hpv
                        have hc9s : wr.cell? ⟨b9, o9 + ii, none⟩ = some (.string (strB t.knd)) := hc9
                        obtain ⟨np, hnp⟩ : ∃ np, t.prt.length = np := ⟨_, rfl⟩
                        rw [hnp] at hc10 hpv
                        have HNP := Lib.hid hnp
                        have hnp2 : np ≤ 2 := hnp ▸ prt_le t
                        have HPV := Lib.hid hpv
                        have HQV := Lib.hid hqv
                        obtain ⟨bb, hbb⟩ := bit_some HP.out.len htM
                        have HBB := Lib.hid hbb
                        have hpt := pos_of HND.out ht
                        rw [hpt] at hbb
                        have hcb := (HM.out.blk 1 rfl).cell ii (bools_get hbb)
                        clear hc9 ht htM hnp hpv hqv hpt hbb
                        have HQL := Lib.hid (show ∀ u ∈ t.prt, u ∈ M from fun u hu => HCL.out t HTM.out u (prt_exp hu))
                        cases bb with
                        | true =>
                          as_aux_lemma =>
                            have HTK0 := Lib.hid ((bit_iff HND.out HTM.out HBB.out).2 rfl)
                            go_upto_region 37 with fail
                            clear hc9s hc10 hcb
                            go_loopw [20, 123] (fun ch i wr => ∃ (jj : Nat) (h3 : List Bool) (c3 : Bool), jj ≤ np ∧ i = .int .i64 jj ∧ ch = .bool c3 ∧ Mem w [] wr [own 9 (.slice A5 k c5) (txts M), blk hb 4 (bools h3), own 9 (.slice (some ⟨b9, o9, none⟩) k c9) (M.map kndV), own 84 (.slice (some ⟨b10, o10, none⟩) k c10) pl, own 84 (.slice A11 k c11) ql, many MM] ∧ Ps L M hs h3 c3 ∧ (c2x = true → c3 = true) ∧ t ∈ hadL M h3 ∧ (c3 = false → ∀ (j' : Nat) (u' : Tm), j' < jj → t.prt[j']? = some u' → Tkn (hadL M h3) t j' → u' ∈ hadL M h3)) (fun _ i _ => np - (intOf i).toNat)
                            case atStart => exact ⟨0, h2, c2x, Nat.zero_le _, rfl, rfl, HM.out, HP.out, id, HTK0.out, fun _ j' u' h => by omega⟩
                            case round =>
                              obtain ⟨jj, h3, c3, hjj, rfl, rfl, hm, hp3, hc3, htk, hac⟩ := hrel
                              clear HM HP HTK0
                              have HM := Lib.hid hm
                              have HP3 := Lib.hid hp3
                              have HC3 := Lib.hid hc3
                              have HTK := Lib.hid htk
                              have HAC := Lib.hid hac
                              have HBK := Lib.hid (HM.out.blk 1 rfl)
                              clear hm hp3 hc3 htk hac
                              by_cases hjn : jj < np
                              · have hdj : decide (jj < np) = true := by simp; exact hjn
                                have hji : (jj : Int) < np := by omega
                                have hj0 : (0 : Int) ≤ jj := by omega
                                obtain ⟨u, hu⟩ : ∃ u, t.prt[jj]? = some u := ⟨_, List.getElem?_eq_getElem (by rw [HNP.out]; exact hjn)⟩
                                obtain ⟨a0, hu0⟩ : ∃ a0, t.prt[0]? = some a0 := ⟨_, List.getElem?_eq_getElem (by rw [HNP.out]; omega)⟩
                                have huM := HQL.out u (List.mem_of_getElem? hu)
                                have haM := HQL.out a0 (List.mem_of_getElem? hu0)
                                have hrp := HTB.out.rdp HM.out rfl HT.out HPV.out HQV.out
                                obtain ⟨bi, oi, rfl, -, hci⟩ := hrp jj (.int .i64 (pos M u : Nat)) (by unfold ints psL; rw [List.getElem?_map, List.getElem?_map, hu]; rfl)
                                have hci0 := rd_cell hrp 0 (.int .i64 (pos M a0 : Nat)) (by unfold ints psL; rw [List.getElem?_map, List.getElem?_map, hu0]; rfl)
                                rw [Nat.add_zero] at hci0
                                obtain ⟨bn, hbn⟩ := bit_some HP3.out.len huM
                                obtain ⟨ba, hba⟩ := bit_some HP3.out.len haM
                                have hcn := HBK.out.cell (pos M u) (bools_get hbn)
                                have hca := HBK.out.cell (pos M a0) (bools_get hba)
                                have HBN0 := Lib.hid (bit_iff HND.out huM hbn)
                                have HBA0 := Lib.hid (bit_iff HND.out haM hba)
                                have HPA := Lib.hid (pos_at huM)
                                have hpos := pos_lt huM
                                have hposa := pos_lt haM
                                rw [HMN.out] at hpos hposa
                                have HU := Lib.hid hu
                                have HU0 := Lib.hid hu0
                                have HPL := Lib.hid (show pos M u < h3.length by rw [HP3.out.len, HMN.out]; exact hpos)
                                have HBN := Lib.hid hbn
                                generalize pos M u = pn at *
                                generalize pos M a0 = pa at *
                                have hn0 : (0 : Int) ≤ pn := by omega
                                have hnk : (pn : Int) < k := by omega
                                have ha0 : (0 : Int) ≤ pa := by omega
                                have hak : (pa : Int) < k := by omega
                                have hj2 : jj = 0 ∨ jj = 1 := by omega
                                have HJ2 := Lib.hid hj2
                                clear hj2
                                clear hu hrp hbn hba haM
                                cases bn with
                                | true =>
                                  clear hpos hu0 huM
                                  go_wp2
                                  go_roundw
                                  case rel =>
                                    have REL := Lib.hid (show ∃ (jj' : Nat) (h3' : List Bool) (c3' : Bool), jj' ≤ np ∧ Value.int .i64 ((jj : Int) + 1) = .int .i64 jj' ∧ Value.bool c3 = .bool c3' ∧ Mem w [] wr [own 9 (.slice A5 k c5) (txts M), blk hb 4 (bools h3'), own 9 (.slice (some ⟨b9, o9, none⟩) k c9) (M.map kndV), own 84 (.slice (some ⟨b10, o10, none⟩) k c10) pl, own 84 (.slice A11 k c11) ql, many MM] ∧ Ps L M hs h3' c3' ∧ (c2x = true → c3' = true) ∧ t ∈ hadL M h3' ∧ (c3' = false → ∀ (j' : Nat) (u' : Tm), j' < jj' → t.prt[j']? = some u' → Tkn (hadL M h3') t j' → u' ∈ hadL M h3') from ⟨jj + 1, h3, c3, hjn, rfl, rfl, HM.out, HP3.out, HC3.out, HTK.out, fun e j' u' h1 h2 h4 => by
                                      by_cases hjj : j' = jj
                                      · subst hjj
                                        rw [HU.out] at h2
                                        obtain rfl := Option.some.inj h2
                                        exact HBN0.out.2 rfl
                                      · exact HAC.out e j' u' (by omega) h2 h4⟩)
                                    first
                                      | exact REL.out
                                      | ((repeat apply Exists.intro); refine ⟨?_, rfl⟩; exact REL.out)
                                  case measure => (first | (simp [intOf]; done) | (simp [intOf]; omega))
                                | false =>
                                  by_cases hP : t.knd = [112, 97, 105, 114]
                                  · have eP : ((strB t.knd).toList == [112, 97, 105, 114]) = true := by rw [strB_toList, hP]; rfl
                                    have HTN := Lib.hid ((wd_pair HTW.out).1 hP)
                                    clear hP
                                    have HDD := Lib.hid (tkn_der HP3.out.snd HTK.out HU.out (.inl HTN.out))
                                    clear hpos hu0 huM
                                    go_wp2_with (refine store_bool rfl 4 _ _ rfl (b := hb) (j := pn) (v := true) rfl rfl Tryd.underlying4 (by kernel_rfl) HBK.out HPL.out ?_; intro V hV hgV; have HMV := Lib.hid (HM.out.store 1 rfl hV hgV); clear hV hgV)
                                    go_roundw
                                    case rel =>
                                      have REL := Lib.hid (show ∃ (jj' : Nat) (h3' : List Bool) (c3' : Bool), jj' ≤ np ∧ Value.int .i64 ((jj : Int) + 1) = .int .i64 jj' ∧ Value.bool true = .bool c3' ∧ Mem w [] V [own 9 (.slice A5 k c5) (txts M), blk hb 4 (bools h3'), own 9 (.slice (some ⟨b9, o9, none⟩) k c9) (M.map kndV), own 84 (.slice (some ⟨b10, o10, none⟩) k c10) pl, own 84 (.slice A11 k c11) ql, many MM] ∧ Ps L M hs h3' c3' ∧ (c2x = true → c3' = true) ∧ t ∈ hadL M h3' ∧ (c3' = false → ∀ (j' : Nat) (u' : Tm), j' < jj' → t.prt[j']? = some u' → Tkn (hadL M h3') t j' → u' ∈ hadL M h3') from ⟨jj + 1, h3.set pn true, true, hjn, rfl, rfl, HMV.out, HP3.out.fire HND.out HPA.out HBN.out HDD.out, fun _ => rfl, (had_set HND.out HP3.out.len HPA.out t).2 (.inl HTK.out), fun e => by cases e⟩)
                                      first
                                        | exact REL.out
                                        | ((repeat apply Exists.intro); refine ⟨?_, rfl⟩; exact REL.out)
                                    case measure => (first | (simp [intOf]; done) | (simp [intOf]; omega))
                                  · have eP : ((strB t.knd).toList == [112, 97, 105, 114]) = false := by rw [strB_toList, beq_eq_false_iff_ne]; exact hP
                                    have HNPr := Lib.hid (fun e => hP ((wd_pair HTW.out).2 e))
                                    clear hP
                                    rcases HJ2.out with hjz | hjo
                                    · have eJ : ((jj : Int) == 1) = false := by rw [beq_eq_false_iff_ne]; omega
                                      have HJZ := Lib.hid hjz
                                      clear hjz
                                      clear hpos hu0 huM
                                      go_wp2
                                      go_roundw
                                      case rel =>
                                        have REL := Lib.hid (show ∃ (jj' : Nat) (h3' : List Bool) (c3' : Bool), jj' ≤ np ∧ Value.int .i64 ((jj : Int) + 1) = .int .i64 jj' ∧ Value.bool c3 = .bool c3' ∧ Mem w [] wr [own 9 (.slice A5 k c5) (txts M), blk hb 4 (bools h3'), own 9 (.slice (some ⟨b9, o9, none⟩) k c9) (M.map kndV), own 84 (.slice (some ⟨b10, o10, none⟩) k c10) pl, own 84 (.slice A11 k c11) ql, many MM] ∧ Ps L M hs h3' c3' ∧ (c2x = true → c3' = true) ∧ t ∈ hadL M h3' ∧ (c3' = false → ∀ (j' : Nat) (u' : Tm), j' < jj' → t.prt[j']? = some u' → Tkn (hadL M h3') t j' → u' ∈ hadL M h3') from ⟨jj + 1, h3, c3, hjn, rfl, rfl, HM.out, HP3.out, HC3.out, HTK.out, fun e j' u' h1 h2 h4 => by
                                          by_cases hjj : j' = jj
                                          · subst hjj
                                            rw [HU.out] at h2
                                            obtain rfl := Option.some.inj h2
                                            rcases h4 with h4 | ⟨h4, _⟩ | ⟨h4, _⟩
                                            · exact absurd h4 HNPr.out
                                            · have := HJZ.out; omega
                                            · have := HJZ.out; omega
                                          · exact HAC.out e j' u' (by omega) h2 h4⟩)
                                        first
                                          | exact REL.out
                                          | ((repeat apply Exists.intro); refine ⟨?_, rfl⟩; exact REL.out)
                                      case measure => (first | (simp [intOf]; done) | (simp [intOf]; omega))
                                    · have eJ : ((jj : Int) == 1) = true := by rw [beq_iff_eq]; omega
                                      have HJO := Lib.hid hjo
                                      clear hjo
                                      by_cases hS : t.knd = [115, 105, 103, 110]
                                      · have eS : ((strB t.knd).toList == [115, 105, 103, 110]) = true := by rw [strB_toList, hS]; rfl
                                        have HTN := Lib.hid ((wd_sign HTW.out).1 hS)
                                        clear hS
                                        have HDD := Lib.hid (tkn_der HP3.out.snd HTK.out HU.out (.inr (.inl ⟨HJO.out, HTN.out⟩)))
                                        clear hpos hu0 huM
                                        go_wp2_with (refine store_bool rfl 4 _ _ rfl (b := hb) (j := pn) (v := true) rfl rfl Tryd.underlying4 (by kernel_rfl) HBK.out HPL.out ?_; intro V hV hgV; have HMV := Lib.hid (HM.out.store 1 rfl hV hgV); clear hV hgV)
                                        go_roundw
                                        case rel =>
                                          have REL := Lib.hid (show ∃ (jj' : Nat) (h3' : List Bool) (c3' : Bool), jj' ≤ np ∧ Value.int .i64 ((jj : Int) + 1) = .int .i64 jj' ∧ Value.bool true = .bool c3' ∧ Mem w [] V [own 9 (.slice A5 k c5) (txts M), blk hb 4 (bools h3'), own 9 (.slice (some ⟨b9, o9, none⟩) k c9) (M.map kndV), own 84 (.slice (some ⟨b10, o10, none⟩) k c10) pl, own 84 (.slice A11 k c11) ql, many MM] ∧ Ps L M hs h3' c3' ∧ (c2x = true → c3' = true) ∧ t ∈ hadL M h3' ∧ (c3' = false → ∀ (j' : Nat) (u' : Tm), j' < jj' → t.prt[j']? = some u' → Tkn (hadL M h3') t j' → u' ∈ hadL M h3') from ⟨jj + 1, h3.set pn true, true, hjn, rfl, rfl, HMV.out, HP3.out.fire HND.out HPA.out HBN.out HDD.out, fun _ => rfl, (had_set HND.out HP3.out.len HPA.out t).2 (.inl HTK.out), fun e => by cases e⟩)
                                          first
                                            | exact REL.out
                                            | ((repeat apply Exists.intro); refine ⟨?_, rfl⟩; exact REL.out)
                                        case measure => (first | (simp [intOf]; done) | (simp [intOf]; omega))
                                      · have eS : ((strB t.knd).toList == [115, 105, 103, 110]) = false := by rw [strB_toList, beq_eq_false_iff_ne]; exact hS
                                        have HNS := Lib.hid (fun e => hS ((wd_sign HTW.out).2 e))
                                        clear hS
                                        by_cases h6 : t.knd = [115, 101, 97, 108]
                                        · have e6 : ((strB t.knd).toList == [115, 101, 97, 108]) = true := by rw [strB_toList, h6]; rfl
                                          have HTN := Lib.hid ((wd_six HTW.out).1 h6)
                                          clear h6
                                          cases ba with
                                          | true =>
                                            have HDD := Lib.hid (tkn_der HP3.out.snd HTK.out HU.out (.inr (.inr ⟨HJO.out, by obtain ⟨x, y, hxy⟩ := HTN.out; exact ⟨x, y, hxy, by have h := HU0.out; rw [hxy] at h; simp [Tm.prt] at h; rw [h]; exact HBA0.out.2 rfl⟩⟩)))
                                            clear hpos hu0 huM
                                            go_wp2_with (refine store_bool rfl 4 _ _ rfl (b := hb) (j := pn) (v := true) rfl rfl Tryd.underlying4 (by kernel_rfl) HBK.out HPL.out ?_; intro V hV hgV; have HMV := Lib.hid (HM.out.store 1 rfl hV hgV); clear hV hgV)
                                            go_roundw
                                            case rel =>
                                              have REL := Lib.hid (show ∃ (jj' : Nat) (h3' : List Bool) (c3' : Bool), jj' ≤ np ∧ Value.int .i64 ((jj : Int) + 1) = .int .i64 jj' ∧ Value.bool true = .bool c3' ∧ Mem w [] V [own 9 (.slice A5 k c5) (txts M), blk hb 4 (bools h3'), own 9 (.slice (some ⟨b9, o9, none⟩) k c9) (M.map kndV), own 84 (.slice (some ⟨b10, o10, none⟩) k c10) pl, own 84 (.slice A11 k c11) ql, many MM] ∧ Ps L M hs h3' c3' ∧ (c2x = true → c3' = true) ∧ t ∈ hadL M h3' ∧ (c3' = false → ∀ (j' : Nat) (u' : Tm), j' < jj' → t.prt[j']? = some u' → Tkn (hadL M h3') t j' → u' ∈ hadL M h3') from ⟨jj + 1, h3.set pn true, true, hjn, rfl, rfl, HMV.out, HP3.out.fire HND.out HPA.out HBN.out HDD.out, fun _ => rfl, (had_set HND.out HP3.out.len HPA.out t).2 (.inl HTK.out), fun e => by cases e⟩)
                                              first
                                                | exact REL.out
                                                | ((repeat apply Exists.intro); refine ⟨?_, rfl⟩; exact REL.out)
                                            case measure => (first | (simp [intOf]; done) | (simp [intOf]; omega))
                                          | false =>
                                            clear hpos hu0 huM
                                            go_wp2
                                            go_roundw
                                            case rel =>
                                              have REL := Lib.hid (show ∃ (jj' : Nat) (h3' : List Bool) (c3' : Bool), jj' ≤ np ∧ Value.int .i64 ((jj : Int) + 1) = .int .i64 jj' ∧ Value.bool c3 = .bool c3' ∧ Mem w [] wr [own 9 (.slice A5 k c5) (txts M), blk hb 4 (bools h3'), own 9 (.slice (some ⟨b9, o9, none⟩) k c9) (M.map kndV), own 84 (.slice (some ⟨b10, o10, none⟩) k c10) pl, own 84 (.slice A11 k c11) ql, many MM] ∧ Ps L M hs h3' c3' ∧ (c2x = true → c3' = true) ∧ t ∈ hadL M h3' ∧ (c3' = false → ∀ (j' : Nat) (u' : Tm), j' < jj' → t.prt[j']? = some u' → Tkn (hadL M h3') t j' → u' ∈ hadL M h3') from ⟨jj + 1, h3, c3, hjn, rfl, rfl, HM.out, HP3.out, HC3.out, HTK.out, fun e j' u' h1 h2 h4 => by
                                                by_cases hjj : j' = jj
                                                · subst hjj
                                                  rw [HU.out] at h2
                                                  obtain rfl := Option.some.inj h2
                                                  rcases h4 with h4 | ⟨_, h4⟩ | ⟨_, x, y, hxy, hx⟩
                                                  · exact absurd h4 HNPr.out
                                                  · exact absurd h4 HNS.out
                                                  · have h := HU0.out; rw [hxy] at h; simp [Tm.prt] at h; rw [h] at hx; exact absurd (HBA0.out.1 hx) (by decide)
                                                · exact HAC.out e j' u' (by omega) h2 h4⟩)
                                              first
                                                | exact REL.out
                                                | ((repeat apply Exists.intro); refine ⟨?_, rfl⟩; exact REL.out)
                                            case measure => (first | (simp [intOf]; done) | (simp [intOf]; omega))
                                        · have e6 : ((strB t.knd).toList == [115, 101, 97, 108]) = false := by rw [strB_toList, beq_eq_false_iff_ne]; exact h6
                                          have HN6 := Lib.hid (fun e => h6 ((wd_six HTW.out).2 e))
                                          clear h6
                                          clear hpos hu0 huM
                                          go_wp2
                                          go_roundw
                                          case rel =>
                                            have REL := Lib.hid (show ∃ (jj' : Nat) (h3' : List Bool) (c3' : Bool), jj' ≤ np ∧ Value.int .i64 ((jj : Int) + 1) = .int .i64 jj' ∧ Value.bool c3 = .bool c3' ∧ Mem w [] wr [own 9 (.slice A5 k c5) (txts M), blk hb 4 (bools h3'), own 9 (.slice (some ⟨b9, o9, none⟩) k c9) (M.map kndV), own 84 (.slice (some ⟨b10, o10, none⟩) k c10) pl, own 84 (.slice A11 k c11) ql, many MM] ∧ Ps L M hs h3' c3' ∧ (c2x = true → c3' = true) ∧ t ∈ hadL M h3' ∧ (c3' = false → ∀ (j' : Nat) (u' : Tm), j' < jj' → t.prt[j']? = some u' → Tkn (hadL M h3') t j' → u' ∈ hadL M h3') from ⟨jj + 1, h3, c3, hjn, rfl, rfl, HM.out, HP3.out, HC3.out, HTK.out, fun e j' u' h1 h2 h4 => by
                                              by_cases hjj : j' = jj
                                              · subst hjj
                                                rw [HU.out] at h2
                                                obtain rfl := Option.some.inj h2
                                                rcases h4 with h4 | ⟨_, h4⟩ | ⟨_, x, y, hxy, _⟩
                                                · exact absurd h4 HNPr.out
                                                · exact absurd h4 HNS.out
                                                · exact absurd ⟨x, y, hxy⟩ HN6.out
                                              · exact HAC.out e j' u' (by omega) h2 h4⟩)
                                            first
                                              | exact REL.out
                                              | ((repeat apply Exists.intro); refine ⟨?_, rfl⟩; exact REL.out)
                                          case measure => (first | (simp [intOf]; done) | (simp [intOf]; omega))
                              · obtain rfl : jj = np := by omega
                                have hdj : decide (jj < jj) = false := by simp
                                go_wp2
                                go_roundw
                                case rel =>
                                  have REL := Lib.hid (show ∃ (ii' : Nat) (h2' : List Bool) (c2' : Bool), ii' ≤ k ∧ Value.int .i64 ((ii : Int) + 1) = .int .i64 ii' ∧ Value.bool c3 = .bool c2' ∧ Mem w [] wr [own 9 (.slice A5 k c5) (txts M), blk hb 4 (bools h2'), own 9 (.slice (some ⟨b9, o9, none⟩) k c9) (M.map kndV), own 84 (.slice (some ⟨b10, o10, none⟩) k c10) pl, own 84 (.slice A11 k c11) ql, many MM] ∧ Ps L M hs h2' c2' ∧ (c2' = false → ∀ i' t, i' < ii' → M[i']? = some t → Quiet (hadL M hs) t) from ⟨ii + 1, h3, c3, hi, rfl, rfl, HM.out, HP3.out, fun e i' t' h1 h4 => by
                                    have hc2 : c2x = false := by cases hcc : c2x with
                                      | false => rfl
                                      | true => have := HC3.out hcc; rw [e] at this; cases this
                                    by_cases hii2 : i' = ii
                                    · subst hii2
                                      rw [HT.out] at h4
                                      obtain rfl := Option.some.inj h4
                                      have hno := HP3.out.no e
                                      have hqq := quiet_had HTK.out (fun j u hj htk => HAC.out e j u (by have := (List.getElem?_eq_some_iff.1 hj).1; rw [HNP.out] at this; exact this) hj htk)
                                      rw [hno] at hqq
                                      exact hqq
                                    · exact HQ2.out hc2 i' t' (by omega) h4⟩)
                                  first
                                    | exact REL.out
                                    | ((repeat apply Exists.intro); refine ⟨?_, rfl⟩; exact REL.out)
                                case measure => (first | (simp [intOf]; done) | (simp [intOf]; omega))
                        | false =>
                          as_aux_lemma =>
                            have HNK := Lib.hid (show t ∉ hadL M h2 from fun e => by have := (bit_iff HND.out HTM.out HBB.out).1 e; cases this)
                            have HBI := Lib.hid (show h2[ii]? = some false from by have := HBB.out; rw [pos_of HND.out HT.out] at this; exact this)
                            have HBK := Lib.hid (HM.out.blk 1 rfl)
                            have HIL := Lib.hid (show ii < h2.length from (List.getElem?_eq_some_iff.1 HBI.out).1)
                            obtain ⟨bA, eA⟩ : ∃ bA, ((strB t.knd).toList == [97, 116, 111, 109]) = bA := ⟨_, rfl⟩
                            have HEA := Lib.hid (show bA = true ↔ ∃ s, t = .atom s by rw [← eA, strB_toList, beq_iff_eq]; exact wd_atom HTW.out)
                            have HOK0 := Lib.hid (show (!bA) = okB M h2 bA (t.prt.take 0) by unfold okB; simp)
                            have hrp := HTB.out.rdp HM.out rfl HT.out HPV.out HQV.out
                            have HRP := Lib.hid hrp
                            clear hrp
                            go_upto_region 45 with fail
                            go_loopw [26, 169] (fun ok i wy => ∃ jj : Nat, jj ≤ np ∧ i = .int .i64 jj ∧ ok = .bool (okB M h2 bA (t.prt.take jj)) ∧ SameW wr wy) (fun _ i _ => np - (intOf i).toNat)
                            case atStart => exact ⟨0, Nat.zero_le _, rfl, by rw [← HOK0.out], (rfl : wr = wr)⟩
                            case round =>
                              obtain ⟨jj, hjj, rfl, rfl, hsw⟩ := hrel
                              unfold SameW at hsw
                              have hsw2 := hsw.symm
                              subst hsw2
                              by_cases hjn : jj < np
                              · have hdj : decide (jj < np) = true := by simp; exact hjn
                                have hji : (jj : Int) < np := by omega
                                have hj0 : (0 : Int) ≤ jj := by omega
                                obtain ⟨u, hu⟩ : ∃ u, t.prt[jj]? = some u := ⟨_, List.getElem?_eq_getElem (by rw [HNP.out]; exact hjn)⟩
                                have huM := HQL.out u (List.mem_of_getElem? hu)
                                obtain ⟨bi, oi, rfl, -, hci⟩ := HRP.out jj (.int .i64 (pos M u : Nat)) (by unfold ints psL; rw [List.getElem?_map, List.getElem?_map, hu]; rfl)
                                obtain ⟨bn, hbn⟩ := bit_some HP.out.len huM
                                have hcn := HBK.out.cell (pos M u) (bools_get hbn)
                                have HOS := Lib.hid (okB_step (bA := bA) hu hbn)
                                have hpos := pos_lt huM
                                rw [HMN.out] at hpos
                                generalize pos M u = pn at *
                                have hn0 : (0 : Int) ≤ pn := by omega
                                have hnk : (pn : Int) < k := by omega
                                clear hu hbn huM
                                cases hob : okB M h2 bA (t.prt.take jj)
                                all_goals
                                  rw [hob] at HOS
                                  clear hob
                                  go_wp2
                                  go_roundw
                                  case rel =>
                                    have REL := Lib.hid (show ∃ jj' : Nat, jj' ≤ np ∧ Value.int .i64 ((jj : Int) + 1) = .int .i64 jj' ∧ Value.bool _ = .bool (okB M h2 bA (t.prt.take jj')) ∧ SameW wr wr from ⟨jj + 1, hjn, rfl, by rw [HOS.out] <;> first | (simp; done) | rfl, (rfl : wr = wr)⟩)
                                    first
                                      | exact REL.out
                                      | ((repeat apply Exists.intro); refine ⟨?_, rfl⟩; exact REL.out)
                                  case measure => (first | (simp [intOf]; done) | (simp [intOf]; omega))
                              · obtain rfl : jj = np := by omega
                                have hdj : decide (jj < jj) = false := by simp
                                have HOA := Lib.hid (show okB M h2 bA (t.prt.take jj) = true ↔ AllP (hadL M h2) t from by rw [List.take_of_length_le (by rw [HNP.out]; exact Nat.le_refl _)]; exact okB_all HND.out HP.out.len HEA.out HQL.out)
                                generalize okB M h2 bA (t.prt.take jj) = okv at *
                                clear HOK0
                                rcases sh_cases HTW.out with ⟨hsh, hq, hx⟩ | ⟨hsh, hq⟩
                                · obtain ⟨a, b, ht4⟩ : ∃ a b, t = .two 4 a b := by
                                    rcases sh_knd HTW.out with ⟨_, a, b, e⟩ | ⟨h, _⟩
                                    · exact ⟨a, b, e⟩
                                    · rw [h] at hsh; cases hsh
                                  have haM := HCL.out.fst (ht4 ▸ HTM.out)
                                  have hbM := HCL.out.snd (ht4 ▸ HTM.out)
                                  have hpaM := HCL.out.pt1 (ht4 ▸ HTM.out)
                                  have hpbM := HCL.out.pt2 (ht4 ▸ HTM.out)
                                  obtain ⟨ba, hba⟩ := bit_some HP.out.len haM
                                  obtain ⟨bb, hbb⟩ := bit_some HP.out.len hbM
                                  obtain ⟨bpa, hbpa⟩ := bit_some HP.out.len hpaM
                                  obtain ⟨bpb, hbpb⟩ := bit_some HP.out.len hpbM
                                  have HF := Lib.hid (show (okv || (ba && bpb) || (bb && bpa)) = true ↔ AllP (hadL M h2) t ∨ Sh1 (hadL M h2) t ∨ Sh2 (hadL M h2) t from by rw [ht4]; exact share_iff okv ba bb bpa bpb (by rw [← ht4]; exact HOA.out) (bit_iff HND.out haM hba) (bit_iff HND.out hbM hbb) (bit_iff HND.out hpaM hbpa) (bit_iff HND.out hpbM hbpb))
                                  have hca := HBK.out.cell _ (bools_get hba)
                                  have hcb2 := HBK.out.cell _ (bools_get hbb)
                                  have hcpa := HBK.out.cell _ (bools_get hbpa)
                                  have hcpb := HBK.out.cell _ (bools_get hbpb)
                                  have hrp2 := HRP.out
                                  rw [show ints (psL M t) = [.int .i64 (pos M a : Nat), .int .i64 (pos M b : Nat)] from by rw [ht4]; rfl] at hrp2
                                  obtain ⟨bi, oi, rfl, -, hci⟩ := hrp2 0 (.int .i64 (pos M a : Nat)) rfl
                                  have hci1 := rd_cell hrp2 1 (.int .i64 (pos M b : Nat)) rfl
                                  rw [Nat.add_zero] at hci
                                  have hrq := HTB.out.rdq HM.out rfl HT.out HPV.out HQV.out
                                  rw [show ints (ptL M t) = [.int .i64 (pos M (.one 1 a) : Nat), .int .i64 (pos M (.one 1 b) : Nat)] from by rw [ht4]; rfl] at hrq
                                  obtain ⟨bj, oj, rfl, -, hcj⟩ := hrq 0 (.int .i64 (pos M (.one 1 a) : Nat)) rfl
                                  have hcj1 := rd_cell hrq 1 (.int .i64 (pos M (.one 1 b) : Nat)) rfl
                                  rw [Nat.add_zero] at hcj
                                  obtain ⟨lq, hlq⟩ : ∃ lq, (ptL M t).length = lq := ⟨_, rfl⟩
                                  rw [hlq] at HQV
                                  have hlq2 : lq = 2 := by rw [← hlq, ht4]; rfl
                                  subst hlq2
                                  obtain ⟨b11, o11, rfl, -, hc11⟩ := (own_rd (HM.out.own 4 rfl)) ii _ HQV.out
                                  have p1 := pos_lt haM
                                  have p2 := pos_lt hbM
                                  have p3 := pos_lt hpaM
                                  have p4 := pos_lt hpbM
                                  rw [HMN.out] at p1 p2 p3 p4
                                  obtain rfl : jj = 2 := by rw [← HNP.out, ht4]; rfl
                                  have hc11s : wr.cell? ⟨b11, o11 + ii, none⟩ = some (.slice (some ⟨bj, oj, none⟩) 2 di) := hc11
                                  generalize pos M a = n1 at *
                                  generalize pos M b = n2x at *
                                  generalize pos M (.one 1 a) = n3 at *
                                  generalize pos M (.one 1 b) = n4 at *
                                  have q1 : (n1 : Int) < k := by omega
                                  have q2 : (n2x : Int) < k := by omega
                                  have q3 : (n3 : Int) < k := by omega
                                  have q4 : (n4 : Int) < k := by omega
                                  have q5 : (0 : Int) ≤ n1 := by omega
                                  have q6 : (0 : Int) ≤ n2x := by omega
                                  have q7 : (0 : Int) ≤ n3 := by omega
                                  have q8 : (0 : Int) ≤ n4 := by omega
                                  clear hq hx haM hbM hpaM hpbM hba hbb hbpa hbpb hrq hc11 hrp2 hlq ht4
                                  go_upto_region 50 with fail
                                  go_cut [26] (fun c wx => c = .bool (okv || (ba && bpb) || (bb && bpa)) ∧ wr = wx)
                                  case first =>
                                    clear HF
                                    cases okv with
                                    | true =>
                                      go_wp2
                                      go_meet
                                      exact ⟨rfl, rfl⟩
                                    | false =>
                                      cases ba with
                                      | true =>
                                        cases bpb with
                                        | true =>
                                          go_wp2
                                          go_meet
                                          exact ⟨rfl, rfl⟩
                                        | false =>
                                          cases bb with
                                          | true =>
                                            cases bpa with
                                            | true =>
                                              go_wp2
                                              go_meet
                                              exact ⟨rfl, rfl⟩
                                            | false =>
                                              go_wp2
                                              go_meet
                                              exact ⟨rfl, rfl⟩
                                          | false =>
                                            go_wp2
                                            go_meet
                                            exact ⟨rfl, rfl⟩
                                      | false =>
                                        cases bb with
                                        | true =>
                                          cases bpa with
                                          | true =>
                                            go_wp2
                                            go_meet
                                            exact ⟨rfl, rfl⟩
                                          | false =>
                                            go_wp2
                                            go_meet
                                            exact ⟨rfl, rfl⟩
                                        | false =>
                                          go_wp2
                                          go_meet
                                          exact ⟨rfl, rfl⟩
                                  case rest =>
                                    obtain ⟨rfl, rfl⟩ := hcut
                                    generalize (okv || (ba && bpb) || (bb && bpa)) = F at *
                                    clear hca hcb2 hcpa hcpb hci hci1 hcj hcj1 hc11s p1 p2 p3 p4 q1 q2 q3 q4 q5 q6 q7 q8
                                    cases F with
                                    | true =>
                                      have HDD := Lib.hid (ok_der HP.out.snd (HF.out.1 rfl))
                                      go_wp2_with (refine store_bool rfl 4 _ _ rfl (b := hb) (j := ii) (v := true) rfl rfl Tryd.underlying4 (by kernel_rfl) HBK.out HIL.out ?_; intro V hV hgV; have HMV := Lib.hid (HM.out.store 1 rfl hV hgV); clear hV hgV)
                                      go_roundw
                                      case rel =>
                                        have REL := Lib.hid (show ∃ (ii' : Nat) (h2' : List Bool) (c2' : Bool), ii' ≤ k ∧ Value.int .i64 ((ii : Int) + 1) = .int .i64 ii' ∧ Value.bool true = .bool c2' ∧ Mem w [] V [own 9 (.slice A5 k c5) (txts M), blk hb 4 (bools h2'), own 9 (.slice (some ⟨b9, o9, none⟩) k c9) (M.map kndV), own 84 (.slice (some ⟨b10, o10, none⟩) k c10) pl, own 84 (.slice (some ⟨b11, o11, none⟩) k c11) ql, many MM] ∧ Ps L M hs h2' c2' ∧ (c2' = false → ∀ i' t, i' < ii' → M[i']? = some t → Quiet (hadL M hs) t) from ⟨ii + 1, h2.set ii true, true, hi, rfl, rfl, HMV.out, HP.out.fire HND.out HT.out HBI.out HDD.out, fun e => by cases e⟩)
                                        first
                                          | exact REL.out
                                          | ((repeat apply Exists.intro); refine ⟨?_, rfl⟩; exact REL.out)
                                      case measure => (first | (simp [intOf]; done) | (simp [intOf]; omega))
                                    | false =>
                                      have HNO := Lib.hid (show ¬ (AllP (hadL M h2) t ∨ Sh1 (hadL M h2) t ∨ Sh2 (hadL M h2) t) from fun e => absurd (HF.out.2 e) (by decide))
                                      go_wp2
                                      go_roundw
                                      case rel =>
                                        have REL := Lib.hid (show ∃ (ii' : Nat) (h2' : List Bool) (c2' : Bool), ii' ≤ k ∧ Value.int .i64 ((ii : Int) + 1) = .int .i64 ii' ∧ Value.bool c2x = .bool c2' ∧ Mem w [] wr [own 9 (.slice A5 k c5) (txts M), blk hb 4 (bools h2'), own 9 (.slice (some ⟨b9, o9, none⟩) k c9) (M.map kndV), own 84 (.slice (some ⟨b10, o10, none⟩) k c10) pl, own 84 (.slice (some ⟨b11, o11, none⟩) k c11) ql, many MM] ∧ Ps L M hs h2' c2' ∧ (c2' = false → ∀ i' t, i' < ii' → M[i']? = some t → Quiet (hadL M hs) t) from ⟨ii + 1, h2, c2x, hi, rfl, rfl, HM.out, HP.out, fun e i' t' h1 h4 => by
                                          by_cases hii2 : i' = ii
                                          · subst hii2
                                            rw [HT.out] at h4
                                            obtain rfl := Option.some.inj h4
                                            have hqq := quiet_no HNK.out HNO.out
                                            rw [HP.out.no e] at hqq
                                            exact hqq
                                          · exact HQ2.out e i' t' (by omega) h4⟩)
                                        first
                                          | exact REL.out
                                          | ((repeat apply Exists.intro); refine ⟨?_, rfl⟩; exact REL.out)
                                      case measure => (first | (simp [intOf]; done) | (simp [intOf]; omega))
                                · have HF := Lib.hid (show okv = true ↔ AllP (hadL M h2) t ∨ Sh1 (hadL M h2) t ∨ Sh2 (hadL M h2) t from ⟨fun e => .inl (HOA.out.1 e), fun e => by
                                    rcases e with e | ⟨x, y, rfl, _⟩ | ⟨x, y, rfl, _⟩
                                    · exact HOA.out.2 e
                                    · rw [show (strB (Tm.knd (.two 4 x y))).toList = [115, 104, 97, 114, 101] from by rw [strB_toList]; rfl] at hsh; simp at hsh
                                    · rw [show (strB (Tm.knd (.two 4 x y))).toList = [115, 104, 97, 114, 101] from by rw [strB_toList]; rfl] at hsh; simp at hsh⟩)
                                  clear hq
                                  cases okv with
                                  | true =>
                                    have HDD := Lib.hid (ok_der HP.out.snd (HF.out.1 rfl))
                                    go_wp2_with (refine store_bool rfl 4 _ _ rfl (b := hb) (j := ii) (v := true) rfl rfl Tryd.underlying4 (by kernel_rfl) HBK.out HIL.out ?_; intro V hV hgV; have HMV := Lib.hid (HM.out.store 1 rfl hV hgV); clear hV hgV)
                                    go_roundw
                                    case rel =>
                                      have REL := Lib.hid (show ∃ (ii' : Nat) (h2' : List Bool) (c2' : Bool), ii' ≤ k ∧ Value.int .i64 ((ii : Int) + 1) = .int .i64 ii' ∧ Value.bool true = .bool c2' ∧ Mem w [] V [own 9 (.slice A5 k c5) (txts M), blk hb 4 (bools h2'), own 9 (.slice (some ⟨b9, o9, none⟩) k c9) (M.map kndV), own 84 (.slice (some ⟨b10, o10, none⟩) k c10) pl, own 84 (.slice A11 k c11) ql, many MM] ∧ Ps L M hs h2' c2' ∧ (c2' = false → ∀ i' t, i' < ii' → M[i']? = some t → Quiet (hadL M hs) t) from ⟨ii + 1, h2.set ii true, true, hi, rfl, rfl, HMV.out, HP.out.fire HND.out HT.out HBI.out HDD.out, fun e => by cases e⟩)
                                      first
                                        | exact REL.out
                                        | ((repeat apply Exists.intro); refine ⟨?_, rfl⟩; exact REL.out)
                                    case measure => (first | (simp [intOf]; done) | (simp [intOf]; omega))
                                  | false =>
                                    have HNO := Lib.hid (show ¬ (AllP (hadL M h2) t ∨ Sh1 (hadL M h2) t ∨ Sh2 (hadL M h2) t) from fun e => absurd (HF.out.2 e) (by decide))
                                    go_wp2
                                    go_roundw
                                    case rel =>
                                      have REL := Lib.hid (show ∃ (ii' : Nat) (h2' : List Bool) (c2' : Bool), ii' ≤ k ∧ Value.int .i64 ((ii : Int) + 1) = .int .i64 ii' ∧ Value.bool c2x = .bool c2' ∧ Mem w [] wr [own 9 (.slice A5 k c5) (txts M), blk hb 4 (bools h2'), own 9 (.slice (some ⟨b9, o9, none⟩) k c9) (M.map kndV), own 84 (.slice (some ⟨b10, o10, none⟩) k c10) pl, own 84 (.slice A11 k c11) ql, many MM] ∧ Ps L M hs h2' c2' ∧ (c2' = false → ∀ i' t, i' < ii' → M[i']? = some t → Quiet (hadL M hs) t) from ⟨ii + 1, h2, c2x, hi, rfl, rfl, HM.out, HP.out, fun e i' t' h1 h4 => by
                                        by_cases hii2 : i' = ii
                                        · subst hii2
                                          rw [HT.out] at h4
                                          obtain rfl := Option.some.inj h4
                                          have hqq := quiet_no HNK.out HNO.out
                                          rw [HP.out.no e] at hqq
                                          exact hqq
                                        · exact HQ2.out e i' t' (by omega) h4⟩)
                                      first
                                        | exact REL.out
                                        | ((repeat apply Exists.intro); refine ⟨?_, rfl⟩; exact REL.out)
                                    case measure => (first | (simp [intOf]; done) | (simp [intOf]; omega))
                      · obtain rfl : ii = k := by omega
                        have hdi : decide (ii < ii) = false := by simp
                        go_wp2
                        cases c2x with
                        | true =>
                          go_roundg (ii - had h2 + 1)
                          case measure => have h7 := HKK.out; simp at h7; have h8 := HP.out.yes rfl; have h9 := had_le h2; have h10 := HP.out.len; have h11 := HMN.out; omega
                          case rel => exact ⟨h2, true, rfl, HM.out, by rw [HP.out.len, HMN.out], HP.out.snd, HP.out.sup, fun _ => by omega, fun e => by cases e⟩
                        | false =>
                          go_roundg 0
                          case measure => have h7 := HKK.out; simp at h7; omega
                          case rel => exact ⟨h2, false, rfl, HM.out, by rw [HP.out.len, HMN.out], HP.out.snd, HP.out.sup, (fun e => by cases e), fun _ t ht => by
                            obtain ⟨j, hj⟩ := List.getElem?_of_mem ht
                            rw [HP.out.no rfl]
                            exact HQ2.out rfl j t (by have := (List.getElem?_eq_some_iff.1 hj).1; rw [HMN.out] at this; exact this) hj⟩
      end Go.Proofs.YtfcemnebhapidaaDoor.Te
