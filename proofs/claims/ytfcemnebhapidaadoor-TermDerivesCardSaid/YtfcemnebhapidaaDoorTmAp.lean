/- What the reference's Apart keeps: terms in their texts' order, each once; plainly. -/
import Derived.Test.YtfcemnebhapidaaDoorTmAm
set_option linter.unusedVariables false
set_option linter.unusedSimpArgs false
namespace Go.Proofs.YtfcemnebhapidaaDoor.Te
open Go.RowKit Go.Proofs.YtfcemnebhapidaaDoor.Ow Go.Proofs.YtfcemnebhapidaaDoor.Mp Go.Maps Go.Proofs.YtfcemnebhapidaaDoor.Sp
theorem Ap_wp {P : Program} {c : Code} {Q : Exit → Act → World → Prop} {a : Act} {W : World} (h : ∀ X, X = W → c.wp P Q a X) : c.wp P Q a W := h W rfl
def Only (Z : World) (b : Nat) (W : World) : Prop := Sp.Upd Z W [b]
theorem Only.refl (Z : World) (b : Nat) : Only Z b Z := Sp.Upd.refl Z [b]
theorem Only.lat {Z W W' : World} {b : Nat} (h : Only Z b W) (hb : Below W.heap.size W W') : Only Z b W' := Sp.Upd.trans h (Sp.Upd.of_below hb) (by simp)
theorem Only.drew {Z W : World} {b : Nat} (h : Only Z b W) : Only Z b W.drew := h.lat (Below.drew (Below.refl _ _))
theorem Only.alloc {Z W : World} {b : Nat} (h : Only Z b W) (o : Obj) : Only Z b (W.alloc o) := h.lat ((Below.refl _ _).alloc (Nat.le_refl _) _)
theorem Only.grown {Z W W' : World} {b : Nat} {row : Option Nat} (h : Only Z b W) (hg : W.grownBy W' row) (hr : ∀ j, row = some j → j = b ∨ Z.heap.size ≤ j) : Only Z b W' :=
  Sp.Upd.trans h (Sp.Upd.of_grown hg) (fun x hx => by
    cases row with
    | none => simp at hx
    | some j => simp at hx; subst hx; rcases hr x rfl with h1 | h1; exact .inl (by simp [h1]); exact .inr h1)
theorem Only.belowOf {B g : Nat} {w Z W : World} (h : Below B w Z) (hu : Only Z g W) (hg : B ≤ g) (hB : B ≤ Z.heap.size) : Below B w W :=
  ⟨hu.os.trans h.os, hu.tape.trans h.tape, hu.output.trans h.output, Nat.le_trans h.size hu.size, fun k hk => (hu.block k (Nat.lt_of_lt_of_le hk hB) (by simp; omega)).trans (h.block k hk)⟩
/-- the front of an owned slice -/
theorem owns_front {w : World} {B g c : Nat} {E : TypeId} {xs : List Value} (h : Owns w B E (.slice (some ⟨g, 0, none⟩) xs.length c) xs) {k : Nat} (hk : k ≤ xs.length) : Owns w B E (.slice (some ⟨g, 0, none⟩) k c) (xs.take k) := by
  have h0 : w.ownsRow B E 1 (.slice (some ⟨g, 0, none⟩) xs.length c) xs.length xs := h
  rcases h0.2 with ⟨hv, hn⟩ | ⟨g', cap, cur, hv, hB, hg, hc, hm, hs, ht⟩
  · cases hv
  · injection hv with e1 e2 e3
    injection e1 with e1
    injection e1 with e1
    subst e1 e3
    have hl : (xs.take k).length = k := by rw [List.length_take]; omega
    refine ⟨by simp, .inr ⟨g, c, cur, by rw [hl], hB, hg, by omega, hm, hs, ?_⟩⟩
    rw [hl, Nat.mul_one, ← ht, List.take_take]
    congr 1
    omega
/-- the back of a slice: where it lies -/
theorem slice_from (t : TypeId) (E : TypeId) (ht : Tryd.prog.underlying t = some (.slice E)) (hs : (Tryd.prog.info? E).map (·.size) = some 1) (g n c k : Nat) (hk : k ≤ n) (hc : n ≤ c) :
    ∃ ad, (∀ W, (Instr.slice t (.slice (some ⟨g, 0, none⟩) n c) (some (.int .i64 (k : Int))) none none).run Tryd.prog W = .ok (.slice (some ad) (n - k) (c - k)) W) ∧ ∀ (W : World) xs, xs.length ≤ n → Rd W (some ⟨g, 0, none⟩) xs → Rd W (some ad) (xs.drop k) := by
  refine ⟨if c = k then ⟨g, 0, none⟩ else (⟨g, 0, none⟩ : Addr).add (k * 1), fun W => ?_, fun W xs hxl h => ?_⟩
  · have hb : (Instr.sliceBounds true n c (some (.int .i64 (k : Int))) none none).run Tryd.prog W = .ok (k, n, c) W := by
      simp [Instr.sliceBounds, Sem.run_bind, go_sem, Int.natCast_nonneg, Int.ofNat_le.2 hk]
    have hz : (sizeOf E).run Tryd.prog W = .ok 1 W := by
      cases hq : Tryd.prog.info? E with
      | none => simp [hq] at hs
      | some i =>
        have : i.size = 1 := by simpa [hq] using hs
        simp [sizeOf, typeInfo, hq, Sem.run_bind, this]
    unfold Instr.slice
    simp only [Sem.run_bind, run_underlying ht W, Result.andThen_ok, hb, hz, Sem.run_pure]
    split <;> rfl
  · intro j x hx
    rw [List.getElem?_drop] at hx
    obtain ⟨b, o, e, h1, h2⟩ := h _ x hx
    injection e with e
    injection e with e1 e2
    subst e1 e2
    split
    · rename_i hck
      exact absurd (List.getElem?_eq_some_iff.1 hx).1 (by omega)
    · refine ⟨g, k, ?_, h1, ?_⟩
      · have hadd : (⟨g, 0, none⟩ : Addr).add (k * 1) = ⟨g, k, none⟩ := by unfold Addr.add; split <;> simp_all
        rw [hadd]
      · rw [Nat.zero_add] at h2; exact h2
theorem owns_cap {w : World} {B g c : Nat} {E : TypeId} {xs : List Value} (h : Owns w B E (.slice (some ⟨g, 0, none⟩) xs.length c) xs) : xs.length ≤ c := by
  have h0 : w.ownsRow B E 1 (.slice (some ⟨g, 0, none⟩) xs.length c) xs.length xs := h
  rcases h0.2 with ⟨hv, _⟩ | ⟨g', cap, cur, hv, _, _, hc, _⟩
  · cases hv
  · injection hv with _ _ e3
    rw [e3]; exact hc
theorem owns_rd {w : World} {B g c : Nat} {E : TypeId} {xs : List Value} (h : Owns w B E (.slice (some ⟨g, 0, none⟩) xs.length c) xs) : Rd w (some ⟨g, 0, none⟩) xs := by
  by_cases hx : xs = []
  · rw [hx]; exact Rd.nil _ _
  · obtain ⟨g', c', hv, _, _, _, _, hR⟩ := owns_form h hx
    injection hv with e1
    injection e1 with e1
    rw [e1]; exact hR
theorem txts_cells (L : List Tm) : ∀ u ∈ txts L, u.oneCell' = true := fun u hu => by obtain ⟨s, rfl⟩ := txts_str _ u hu; rfl
/-- out is written anew: its own row, and what is new -/
theorem QS.setO {w W W' : World} {v v' q : Value} {O O' Q : List Tm} {g : Nat} (h : QS w W v q O Q) (hv : v.ownBlock = some g) (ho : Owns W' w.heap.size 9 v' (txts O')) (hu : Only W g W') (hat : v'.ownBlock = some g ∨ ∃ g', v'.ownBlock = some g' ∧ W.heap.size ≤ g') : QS w W' v' q O' Q := by
  refine ⟨ho, h.qq.kept fun g2 hgq => hu.block g2 (h.qq.lt g2 hgq).2 (fun e => h.sep g hv (by simp at e; rw [hgq, e])), Only.belowOf h.bel hu (h.o.lt g hv).1 h.bel.size, fun g1 h1 h2 => ?_⟩
  rcases hat with h3 | ⟨g', h3, h4⟩
  · rw [h3] at h1; exact h.sep g1 (hv.trans h1) h2
  · rw [h3] at h1
    have h5 := Option.some.inj h1
    have h6 := (h.qq.lt g1 h2).2
    omega
/-- what is taken from a term -/
def tkn (D : List Tm) : Tm → List Tm
  | .atom _ => []
  | .one _ _ => []
  | .two k a b => if k = 3 then [a, b] else if k = 5 then [b] else if k = 6 then (if a ∈ D then [b] else []) else []
theorem tkn_two (D : List Tm) (k : Nat) (a b : Tm) : tkn D (.two k a b) = if k = 3 then [a, b] else if k = 5 then [b] else if k = 6 then (if a ∈ D then [b] else []) else [] := rfl
theorem tkn_len (D : List Tm) (t : Tm) : (tkn D t).length ≤ 2 := by
  cases t with
  | atom s => simp [tkn]
  | one k a => simp [tkn]
  | two k a b =>
    rw [tkn_two]
    split
    · simp
    · split
      · simp
      · split
        · split <;> simp
        · simp
theorem tkn_univ {L D : List Tm} {t u : Tm} (h : t ∈ univ L) (hu : u ∈ tkn D t) : u ∈ univ L := by
  cases t with
  | atom s => simp [tkn] at hu
  | one k a => simp [tkn] at hu
  | two k a b =>
    obtain ⟨ha, hb⟩ := (univ_hold L _ h).2 _ _ _ rfl
    rw [tkn_two] at hu
    split at hu
    · simp at hu; rcases hu with rfl | rfl <;> assumption
    · split at hu
      · simp at hu; rw [hu]; exact hb
      · split at hu
        · split at hu
          · simp at hu; rw [hu]; exact hb
          · simp at hu
        · simp at hu
theorem tkn_apt {L D : List Tm} (hD : ∀ a ∈ D, Der (· ∈ L) a) {t u : Tm} (h : Apt (· ∈ L) t) (hu : u ∈ tkn D t) : Apt (· ∈ L) u := by
  cases t with
  | atom s => simp [tkn] at hu
  | one k a => simp [tkn] at hu
  | two k a b =>
    rw [tkn_two] at hu
    split at hu
    · rename_i hk; subst hk; simp at hu; rcases hu with rfl | rfl; exact .fst h; exact .snd h
    · split at hu
      · rename_i hk; subst hk; simp at hu; rw [hu]; exact .sgn h
      · split at hu
        · rename_i hk; subst hk
          split at hu
          · rename_i ha; simp at hu; rw [hu]; exact .opn h (hD _ ha)
          · simp at hu
        · simp at hu
/-- where a term comes in -/
def ins (O : List Tm) (k : Nat) (t : Tm) : List Tm := O.take k ++ t :: O.drop k
theorem mem_ins {O : List Tm} {k : Nat} {t u : Tm} : u ∈ ins O k t ↔ u = t ∨ u ∈ O := by
  unfold ins
  rw [List.mem_append, List.mem_cons]
  constructor
  · rintro (h | h | h)
    · exact .inr (List.mem_of_mem_take h)
    · exact .inl h
    · exact .inr (List.mem_of_mem_drop h)
  · rintro (h | h)
    · exact .inr (.inl h)
    · rw [← List.take_append_drop k O, List.mem_append] at h
      rcases h with h | h
      · exact .inl h
      · exact .inr (.inr h)
theorem ins_len (O : List Tm) (k : Nat) (t : Tm) : (ins O k t).length = O.length + 1 := by
  unfold ins
  rw [List.length_append, List.length_cons, List.length_take, List.length_drop]
  omega
theorem ins_txts (O : List Tm) (k : Nat) (t : Tm) : (txts O).take k ++ ([.string (strB t.txt)] ++ (txts O).drop k) = txts (ins O k t) := by
  unfold txts ins
  rw [List.map_append, List.map_cons, List.map_take, List.map_drop, List.map_append, List.map_cons, List.map_take, List.map_drop]
  rfl
theorem ltb_of {x t : List UInt8} (h1 : ¬ x < t) (h2 : ¬ x = t) : t < x := Decidable.byContradiction fun h => h2 (List.le_antisymm (List.not_lt.1 h) (List.not_lt.1 h1))
theorem ins_srt {O : List Tm} {k : Nat} {t : Tm} (hs : (O.map Tm.txt).Pairwise (· < ·)) (h1 : ∀ (i : Nat) (x : List UInt8), i < k → (O.map Tm.txt)[i]? = some x → x < t.txt) (h2 : ∀ x, (O.map Tm.txt)[k]? = some x → ¬ x < t.txt) (hn : t.txt ∉ O.map Tm.txt) : ((ins O k t).map Tm.txt).Pairwise (· < ·) := by
  unfold ins
  rw [List.map_append, List.map_cons, List.map_take, List.map_drop]
  generalize O.map Tm.txt = l at *
  have hs2 : (l.take k ++ l.drop k).Pairwise (· < ·) := by rw [List.take_append_drop]; exact hs
  obtain ⟨p1, p2, p3⟩ := List.pairwise_append.1 hs2
  have hlt : ∀ y ∈ l.drop k, t.txt < y := by
    intro y hy
    cases hd : l.drop k with
    | nil => rw [hd] at hy; simp at hy
    | cons z zs =>
      have hz : l[k]? = some z := by
        have h := congrArg (fun m => m[0]?) hd
        simpa [List.getElem?_drop] using h
      have hzt : t.txt < z := ltb_of (h2 z hz) (fun e => hn (e ▸ List.mem_of_getElem? hz))
      rw [hd] at hy p2
      rcases List.mem_cons.1 hy with rfl | hy
      · exact hzt
      · exact List.lt_trans hzt ((List.pairwise_cons.1 p2).1 y hy)
  have hgt : ∀ x ∈ l.take k, x < t.txt := by
    intro x hx
    obtain ⟨i, hi⟩ := List.getElem?_of_mem hx
    rw [List.getElem?_take] at hi
    split at hi
    · exact h1 i x (by assumption) hi
    · cases hi
  refine List.pairwise_append.2 ⟨p1, List.pairwise_cons.2 ⟨hlt, p2⟩, fun x hx y hy => ?_⟩
  rcases List.mem_cons.1 hy with rfl | hy
  · exact hgt x hx
  · exact p3 x hx y hy
/-- on the way: out is O, rising; what waits is Q -/
structure Ap (L D O Q : List Tm) : Prop where
  srt : (O.map Tm.txt).Pairwise (· < ·)
  ou : ∀ t ∈ O, t ∈ univ L
  qu : ∀ t ∈ Q, t ∈ univ L
  ao : ∀ t ∈ O, Apt (· ∈ L) t
  aq : ∀ t ∈ Q, Apt (· ∈ L) t
  all : ∀ t ∈ L, t ∈ O ∨ t ∈ Q
  ex : ∀ t ∈ O, ∀ u ∈ tkn D t, u ∈ O ∨ u ∈ Q
  ql : Q.length ≤ 20 + 2 * O.length
theorem Ap.start {L D : List Tm} (hl : L.length ≤ 20) : Ap L D [] L := ⟨List.Pairwise.nil, fun t h => by simp at h, fun t h => List.mem_flatMap.2 ⟨t, h, subs_self t⟩, fun t h => by simp at h, fun t h => .base h, fun t h => .inr h, fun t h => by simp at h, by simp; omega⟩
theorem Ap.skip {L D O Q : List Tm} {t : Tm} (h : Ap L D O (t :: Q)) (ht : t ∈ O) : Ap L D O Q := by
  refine ⟨h.srt, h.ou, fun u hu => h.qu u (by simp [hu]), h.ao, fun u hu => h.aq u (by simp [hu]), fun u hu => ?_, fun u hu x hx => ?_, by have := h.ql; simp at this; omega⟩
  · rcases h.all u hu with h1 | h1
    · exact .inl h1
    · rcases List.mem_cons.1 h1 with rfl | h1
      · exact .inl ht
      · exact .inr h1
  · rcases h.ex u hu x hx with h1 | h1
    · exact .inl h1
    · rcases List.mem_cons.1 h1 with rfl | h1
      · exact .inl ht
      · exact .inr h1
theorem Ap.take {L D O Q : List Tm} {t : Tm} {k : Nat} (h : Ap L D O (t :: Q)) (hD : ∀ a ∈ D, Der (· ∈ L) a) (hn : t.txt ∉ O.map Tm.txt) (h1 : ∀ (i : Nat) (x : List UInt8), i < k → (O.map Tm.txt)[i]? = some x → x < t.txt) (h2 : ∀ x, (O.map Tm.txt)[k]? = some x → ¬ x < t.txt) : Ap L D (ins O k t) (Q ++ tkn D t) := by
  have htu := h.qu t (by simp)
  have hta := h.aq t (by simp)
  refine ⟨ins_srt h.srt h1 h2 hn, fun u hu => ?_, fun u hu => ?_, fun u hu => ?_, fun u hu => ?_, fun u hu => ?_, fun u hu x hx => ?_, ?_⟩
  · rcases mem_ins.1 hu with rfl | hu
    · exact htu
    · exact h.ou u hu
  · rcases List.mem_append.1 hu with hu | hu
    · exact h.qu u (by simp [hu])
    · exact tkn_univ htu hu
  · rcases mem_ins.1 hu with rfl | hu
    · exact hta
    · exact h.ao u hu
  · rcases List.mem_append.1 hu with hu | hu
    · exact h.aq u (by simp [hu])
    · exact tkn_apt hD hta hu
  · rcases h.all u hu with h3 | h3
    · exact .inl (mem_ins.2 (.inr h3))
    · rcases List.mem_cons.1 h3 with rfl | h3
      · exact .inl (mem_ins.2 (.inl rfl))
      · exact .inr (by simp [h3])
  · rcases mem_ins.1 hu with rfl | hu
    · exact .inr (by simp [hx])
    · rcases h.ex u hu x hx with h3 | h3
      · exact .inl (mem_ins.2 (.inr h3))
      · rcases List.mem_cons.1 h3 with rfl | h3
        · exact .inl (mem_ins.2 (.inl rfl))
        · exact .inr (by simp [h3])
  · have h3 := h.ql
    have h4 := tkn_len D t
    rw [ins_len]
    simp at h3 ⊢
    omega
theorem Ap.nd {L D O Q : List Tm} (h : Ap L D O Q) : O.Nodup := by
  have h1 : (O.map Tm.txt).Nodup := List.Pairwise.imp (R := (· < ·)) (S := (· ≠ ·)) (fun {a b} h e => List.lt_irrefl b (by rw [e] at h; exact h)) h.srt
  exact List.Pairwise.of_map Tm.txt (fun a b hab e => hab (congrArg _ e)) h1
theorem Ap.len {L D O Q : List Tm} (h : Ap L D O Q) : O.length ≤ (univ L).length := nodup_len h.nd h.ou
theorem Ap.fin {L D O K : List Tm} (h : Ap L D O []) (hD : ∀ a ∈ univ L, Der (· ∈ L) a → a ∈ D) (hK : Kn L K) : O.map Tm.txt = ptsL L := by
  have hall : ∀ t, Apt (· ∈ L) t → t ∈ O := by
    intro t ha
    have ex : ∀ {t u : Tm}, t ∈ O → u ∈ tkn D t → u ∈ O := fun ht hu => by
      rcases h.ex _ ht _ hu with h1 | h1
      · exact h1
      · simp at h1
    induction ha with
    | base h' => rcases h.all _ h' with h1 | h1; exact h1; simp at h1
    | fst _ ih => exact ex ih (by simp [tkn])
    | snd _ ih => exact ex ih (by simp [tkn])
    | sgn _ ih => exact ex ih (by simp [tkn])
    | opn _ h' ih => exact ex ih (by have := hD _ ((univ_hold L _ (h.ou _ ih)).2 _ _ _ rfl).1 h'; simp [tkn, this])
  have hp : (O.map Tm.txt).Perm (K.map Tm.txt) := ((List.perm_ext_iff_of_nodup h.nd hK.nd).2 fun t => ⟨fun ht => (hK.mem_iff t).2 (h.ao t ht), fun ht => hall t ((hK.mem_iff t).1 ht)⟩).map _
  rw [← hK.pts]
  unfold prtsOf
  rw [← mergeSort_of_perm hp, List.mergeSort_of_pairwise]
  exact h.srt.imp (fun h => by simpa using List.le_of_lt h)
theorem univ_len2 {L : List Tm} (h : ∀ t ∈ L, t.wf ∧ t.txt.length ≤ 100) (hl : L.length ≤ 20) : (univ L).length ≤ 2000 := by
  have h1 := univ_len (M := 100) h
  have h2 : L.length * 100 ≤ 20 * 100 := Nat.mul_le_mul_right _ hl
  omega
end Go.Proofs.YtfcemnebhapidaaDoor.Te
