/- The reference's at and All. -/
import Derived.Test.YtfcemnebhapidaaDoorTmFx
import Derived.Test.YtfcemnebhapidaaDoorTmQu
import Derived.Test.YtfcemnebhapidaaDoorTmFr
set_option linter.unusedVariables false
set_option linter.unusedSimpArgs false
namespace Go.Proofs.YtfcemnebhapidaaDoor.Te
open Go.RowKit Go.Proofs.YtfcemnebhapidaaDoor.Ow Go.Proofs.YtfcemnebhapidaaDoor.Mp Go.Maps
/-- where a text stands first; -1: nowhere -/
def idxI (l : List (List UInt8)) (s : List UInt8) : Int := if s ∈ l then (l.idxOf s : Int) else -1
theorem pts_at2 {w : World} {A : Option Addr} {l : List (List UInt8)} (h : Rd w A (l.map encStr)) {j : Nat} {y : List UInt8} (hy : l[j]? = some y) : ∃ b o, A = some ⟨b, o, none⟩ ∧ w.cell? ⟨b, o + j, none⟩ = some (.string (strB y)) := by
  obtain ⟨b, o, e, _, hc⟩ := h j (encStr y) (by rw [List.getElem?_map, hy]; rfl)
  exact ⟨b, o, e, hc⟩
theorem idx_here {l : List (List UInt8)} {s : List UInt8} {k : Nat} (h : l[k]? = some s) (hno : ∀ j, j < k → l[j]? ≠ some s) : idxI l s = k := by
  unfold idxI
  rw [if_pos (List.mem_of_getElem? h)]
  have hl := List.idxOf_lt_length_of_mem (List.mem_of_getElem? h)
  have h1 : l[l.idxOf s]? = some s := by rw [List.getElem?_eq_getElem hl, List.getElem_idxOf]
  have h2 : ¬ l.idxOf s < k := fun e => hno _ e h1
  have h3 : ¬ k < l.idxOf s := fun e => by
    have h4 := List.not_of_lt_findIdx (p := (· == s)) (xs := l) (i := k) e
    have h5 := (List.getElem?_eq_some_iff.1 h).2
    simp [h5] at h4
  omega
theorem idx_none {l : List (List UInt8)} {s : List UInt8} (hno : ∀ j : Nat, l[j]? ≠ some s) : idxI l s = -1 := by
  unfold idxI
  rw [if_neg]
  intro hm
  obtain ⟨j, hj⟩ := List.getElem?_of_mem hm
  exact hno j hj
/-- of terms -/
theorem idx_txt {M : List Tm} {t : Tm} (hM : ∀ u ∈ M, u.wf) (ht : t.wf) : idxI (M.map Tm.txt) t.txt = if t ∈ M then (pos M t : Int) else -1 := by
  by_cases hm : t ∈ M
  · rw [if_pos hm]
    refine idx_here (by rw [List.getElem?_map, pos_at hm]; rfl) fun j hj e => ?_
    rw [List.getElem?_map, Option.map_eq_some_iff] at e
    obtain ⟨u, hu, e⟩ := e
    have := txt_inj (hM u (List.mem_of_getElem? hu)) ht e
    subst this
    have h4 := List.not_of_lt_findIdx (p := (· == u)) (xs := M) (i := j) hj
    have h5 := (List.getElem?_eq_some_iff.1 hu).2
    simp [h5] at h4
  · rw [if_neg hm]
    refine idx_none fun j e => ?_
    rw [List.getElem?_map, Option.map_eq_some_iff] at e
    obtain ⟨u, hu, e⟩ := e
    have := txt_inj (hM u (List.mem_of_getElem? hu)) ht e
    subst this
    exact hm (List.mem_of_getElem? hu)
set_option maxRecDepth 20000 in
set_option maxHeartbeats 4000000 in
theorem RAt_any (w : World) (A : Option Addr) (n c : Nat) (l : List (List UInt8)) (s : List UInt8) (hn : l.length = n) (hR : Rd w A (l.map encStr)) (hx : n ≤ 9223372036854775807) :
    Calls Tryd.prog 37 #[.slice A n c, .string (strB s)] w fun e w' => e = .returned (.int .i64 (idxI l s)) ∧ w = w' := by
  have HR := Lib.hid hR
  have HN := Lib.hid hn
  clear hR hn
  go_enter Tryd.func37, Tryd.ntmps37
  go_wp2
  go_loopw [9] (fun i wr => ∃ k : Nat, k ≤ n ∧ i = .int .i64 k ∧ (∀ j, j < k → l[j]? ≠ some s) ∧ SameW w wr) (fun i _ => n - (intOf i).toNat)
  case atStart => exact ⟨0, Nat.zero_le _, rfl, fun j hj => by omega, (rfl : w = w)⟩
  case round =>
    obtain ⟨k, hk, rfl, hno, hsw⟩ := hrel
    obtain rfl : w = wr := hsw
    have HNO := Lib.hid hno
    clear hno
    by_cases hkn : k < n
    · have hd : decide (k < n) = true := by simp; exact hkn
      have hki : (k : Int) < n := by omega
      have hk0 : (0 : Int) ≤ k := by omega
      obtain ⟨y, hy⟩ : ∃ y, l[k]? = some y := ⟨_, List.getElem?_eq_getElem (by rw [HN.out]; exact hkn)⟩
      obtain ⟨b, o, rfl, hc⟩ := pts_at2 HR.out hy
      have HY := Lib.hid hy
      clear hy
      by_cases hys : y = s
      · have hbe : ((strB y).toList == (strB s).toList) = true := by rw [strB_beq, hys]; exact beq_self_eq_true _
        have HI := Lib.hid (idx_here (hys ▸ HY.out) HNO.out)
        clear hys
        go_wp2
        go_ret
        exact ⟨by rw [HI.out]; rfl, rfl⟩
      · have hbe : ((strB y).toList == (strB s).toList) = false := by rw [strB_beq, beq_eq_false_iff_ne]; exact hys
        have HN2 := Lib.hid (show ∀ j, j < k + 1 → l[j]? ≠ some s from fun j hj e => by
          by_cases h : j = k
          · subst h; rw [HY.out] at e; exact hys (Option.some.inj e)
          · exact HNO.out j (by omega) e)
        clear hys
        go_wp2
        go_roundw
        case rel =>
          have REL := Lib.hid (show ∃ k' : Nat, k' ≤ n ∧ Value.int .i64 ((k : Int) + 1) = .int .i64 k' ∧ (∀ j, j < k' → l[j]? ≠ some s) ∧ SameW w w from ⟨k + 1, hkn, rfl, HN2.out, (rfl : w = w)⟩)
          first
            | exact REL.out
            | ((repeat apply Exists.intro); refine ⟨?_, rfl⟩; exact REL.out)
        case measure => (first | (simp [intOf]; done) | (simp [intOf]; omega))
    · obtain rfl : k = n := by omega
      have hd : decide (k < k) = false := by simp
      have HI := Lib.hid (idx_none (l := l) (s := s) fun j e => by
        by_cases h : j < k
        · exact HNO.out j h e
        · have := (List.getElem?_eq_some_iff.1 e).1; rw [HN.out] at this; omega)
      go_wp2
      go_ret
      exact ⟨by rw [HI.out]; rfl, rfl⟩
/-- all that All may come upon -/
def uni (L : List Tm) : List Tm := univ L ++ (univ L).map (.one 1)
theorem uni_exp {L : List Tm} {t : Tm} (h : t ∈ uni L) : ∀ u ∈ exp t, u ∈ uni L := by
  intro u hu
  have hh := univ_hold L
  unfold uni at h ⊢
  rcases List.mem_append.1 h with h | h
  · cases t with
    | atom s => simp [exp] at hu
    | one k a =>
      simp [exp] at hu
      subst hu
      exact List.mem_append_left _ ((hh _ h).1 _ _ rfl)
    | two k a b =>
      obtain ⟨ha, hb⟩ := (hh _ h).2 _ _ _ rfl
      simp only [exp] at hu
      rcases List.mem_append.1 hu with hu | hu
      · simp at hu
        rcases hu with rfl | rfl
        · exact List.mem_append_left _ ha
        · exact List.mem_append_left _ hb
      · split at hu
        · simp at hu
          rcases hu with rfl | rfl
          · exact List.mem_append_right _ (List.mem_map.2 ⟨_, ha, rfl⟩)
          · exact List.mem_append_right _ (List.mem_map.2 ⟨_, hb, rfl⟩)
        · simp at hu
  · obtain ⟨a, ha, rfl⟩ := List.mem_map.1 h
    simp [exp] at hu
    subst hu
    exact List.mem_append_left _ ha
theorem subs_wf : ∀ (t : Tm), t.wf → ∀ u ∈ subs t, u.wf
  | .atom s, h, u, hu => by simp [subs] at hu; rw [hu]; exact h
  | .one k a, h, u, hu => by
    unfold subs at hu
    rcases List.mem_cons.1 hu with rfl | hu
    · exact h
    · exact subs_wf a h.2 u hu
  | .two k a b, h, u, hu => by
    unfold subs at hu
    rcases List.mem_cons.1 hu with rfl | hu
    · exact h
    · rcases List.mem_append.1 hu with hu | hu
      · exact subs_wf a h.2.2.1 u hu
      · exact subs_wf b h.2.2.2.1 u hu
theorem univ_fit2 {L : List Tm} (h : ∀ t ∈ L, t.wf ∧ t.txt.length ≤ 100) : ∀ u ∈ univ L, u.wf ∧ u.txt.length ≤ 100 := fun u hu => by
  obtain ⟨t, ht, hx⟩ := List.mem_flatMap.1 hu
  exact ⟨subs_wf t (h t ht).1 u hx, Nat.le_trans (subs_txt t hx) (h t ht).2⟩
theorem uni_fit {L : List Tm} (h : ∀ t ∈ L, t.wf ∧ t.txt.length ≤ 100) : ∀ u ∈ uni L, u.wf ∧ u.txt.length ≤ 200 := fun u hu => by
  unfold uni at hu
  rcases List.mem_append.1 hu with hu | hu
  · have := univ_fit2 h u hu; exact ⟨this.1, by omega⟩
  · obtain ⟨a, ha, rfl⟩ := List.mem_map.1 hu
    have := univ_fit2 h a ha
    exact ⟨⟨by decide, this.1⟩, by simp [Tm.txt, word]; omega⟩
theorem uni_len {L : List Tm} (h : ∀ t ∈ L, t.wf ∧ t.txt.length ≤ 100) (hl : L.length ≤ 20) : (uni L).length ≤ 4000 := by
  have h1 := univ_len (M := 100) h
  have h2 : L.length * 100 ≤ 20 * 100 := Nat.mul_le_mul_right _ hl
  unfold uni
  rw [List.length_append, List.length_map]
  omega
/-- on the way: out is O, what waits is Q -/
structure Bf (L O Q : List Tm) : Prop where
  nd : O.Nodup
  ou : ∀ t ∈ O, t ∈ uni L
  qu : ∀ t ∈ Q, t ∈ uni L
  all : ∀ t ∈ L, t ∈ O ∨ t ∈ Q
  ex : ∀ t ∈ O, ∀ u ∈ exp t, u ∈ O ∨ u ∈ Q
  ql : Q.length ≤ 20 + 4 * O.length
theorem Bf.start {L : List Tm} (hl : L.length ≤ 20) : Bf L [] L := ⟨List.nodup_nil, fun t h => by simp at h, fun t h => List.mem_append_left _ (List.mem_flatMap.2 ⟨t, h, subs_self t⟩), fun t h => .inr h, fun t h => by simp at h, by simp; omega⟩
theorem Bf.skip {L O Q : List Tm} {t : Tm} (h : Bf L O (t :: Q)) (ht : t ∈ O) : Bf L O Q := by
  refine ⟨h.nd, h.ou, fun u hu => h.qu u (by simp [hu]), fun u hu => ?_, fun u hu x hx => ?_, by have := h.ql; simp at this; omega⟩
  · rcases h.all u hu with h1 | h1
    · exact .inl h1
    · rcases List.mem_cons.1 h1 with rfl | h1
      · exact .inl ht
      · exact .inr h1
  · rcases h.ex u hu x hx with h1 | h1
    · exact .inl h1
    · rcases List.mem_cons.1 h1 with rfl | h1
      · exact .inl ht
      · exact .inr h1
theorem exp_len (t : Tm) : (exp t).length ≤ 4 := by cases t <;> simp [exp]; split <;> simp
theorem Bf.take {L O Q : List Tm} {t : Tm} (h : Bf L O (t :: Q)) (ht : t ∉ O) : Bf L (O ++ [t]) (Q ++ exp t) := by
  have htu := h.qu t (by simp)
  refine ⟨?_, fun u hu => ?_, fun u hu => ?_, fun u hu => ?_, fun u hu x hx => ?_, ?_⟩
  · rw [List.nodup_append]
    refine ⟨h.nd, by simp, fun a ha b hb => ?_⟩
    simp at hb
    subst hb
    rintro rfl
    exact ht ha
  · rcases List.mem_append.1 hu with hu | hu
    · exact h.ou u hu
    · simp at hu; rw [hu]; exact htu
  · rcases List.mem_append.1 hu with hu | hu
    · exact h.qu u (by simp [hu])
    · exact uni_exp htu u hu
  · rcases h.all u hu with h1 | h1
    · exact .inl (by simp [h1])
    · rcases List.mem_cons.1 h1 with rfl | h1
      · exact .inl (by simp)
      · exact .inr (by simp [h1])
  · rcases List.mem_append.1 hu with hu | hu
    · rcases h.ex u hu x hx with h1 | h1
      · exact .inl (by simp [h1])
      · rcases List.mem_cons.1 h1 with rfl | h1
        · exact .inl (by simp)
        · exact .inr (by simp [h1])
    · simp at hu
      subst hu
      exact .inr (by simp [hx])
  · have h1 := h.ql
    have h2 := exp_len t
    simp at h1 ⊢
    omega
theorem Bf.len {L O Q : List Tm} (h : Bf L O Q) : O.length ≤ (uni L).length := nodup_len h.nd h.ou
theorem Bf.fin {L O : List Tm} (h : Bf L O []) : Clo O ∧ ∀ t ∈ L, t ∈ O := ⟨fun t ht u hu => by rcases h.ex t ht u hu with h1 | h1; exact h1; simp at h1, fun t ht => by rcases h.all t ht with h1 | h1; exact h1; simp at h1⟩
/-- the two rows of one's own: out and what waits -/
structure QS (w W : World) (v q : Value) (O Q : List Tm) : Prop where
  o : Owns W w.heap.size 9 v (txts O)
  qq : OwnQ W w.heap.size 9 q (txts Q)
  bel : Below w.heap.size w W
  sep : ∀ g, v.ownBlock = some g → q.ownBlock ≠ some g
theorem QS.below {w W W' : World} {v q : Value} {O Q : List Tm} (h : QS w W v q O Q) (hb : Below W.heap.size W W') : QS w W' v q O Q := ⟨h.o.below hb, h.qq.below hb, h.bel.trans (hb.mono h.bel.size), h.sep⟩
theorem QS.addO {w W W' : World} {v v' q : Value} {O Q : List Tm} {t : Tm} (h : QS w W v q O Q) (ho : Owns W' w.heap.size 9 v' (txts (O ++ [t]))) (hg : W.grownBy W' v.ownBlock) (hat : v'.ownBlock = v.ownBlock ∨ ∃ g, v'.ownBlock = some g ∧ W.heap.size ≤ g) : QS w W' v' q (O ++ [t]) Q := by
  refine ⟨ho, h.qq.kept fun g hgq => hg.block g (h.qq.lt g hgq).2 (fun e => h.sep g e.symm hgq), Below.grown h.bel hg h.bel.size (fun k hk => (h.o.lt k hk).1), fun g h1 h2 => ?_⟩
  rcases hat with h3 | ⟨g', h3, h4⟩
  · exact h.sep g (h3 ▸ h1) h2
  · rw [h3] at h1
    have h5 := Option.some.inj h1
    have h6 := (h.qq.lt g h2).2
    omega
theorem QS.addQ {w W W' : World} {v q q' : Value} {O Q Q' : List Tm} (h : QS w W v q O Q) (ho : OwnQ W' w.heap.size 9 q' (txts Q')) (hg : W.grownBy W' q.ownBlock) (hat : q'.ownBlock = q.ownBlock ∨ ∃ g, q'.ownBlock = some g ∧ W.heap.size ≤ g) : QS w W' v q' O Q' := by
  refine ⟨h.o.kept hg ?_, ho, Below.grown h.bel hg h.bel.size (fun k hk => (h.qq.lt k hk).1), fun g h1 h2 => ?_⟩
  · cases h5 : v.ownBlock with
    | none => exact .inl rfl
    | some g5 => exact .inr fun e => h.sep g5 h5 e.symm
  · rcases hat with h3 | ⟨g', h3, h4⟩
    · exact h.sep g h1 (h3 ▸ h2)
    · rw [h3] at h2
      have h5 := Option.some.inj h2
      have h6 := (h.o.lt g h1).2
      omega
theorem QS.tail {w W : World} {v q q' : Value} {O Q : List Tm} {t : Tm} (h : QS w W v q O (t :: Q)) (ho : OwnQ W w.heap.size 9 q' (txts Q)) (hb : q'.ownBlock = q.ownBlock) : QS w W v q' O Q := ⟨h.o, ho, h.bel, fun g h1 h2 => h.sep g h1 (hb ▸ h2)⟩
theorem txts_cons (t : Tm) (L : List Tm) : txts (t :: L) = encStr t.txt :: txts L := by unfold txts; rfl
theorem txts_app (A B : List Tm) : txts A ++ txts B = txts (A ++ B) := by unfold txts; rw [List.map_append, List.map_append]
theorem txts_get {L : List Tm} {j : Nat} {t : Tm} (h : L[j]? = some t) : (txts L)[j]? = some (.string (strB t.txt)) := by unfold txts; rw [List.getElem?_map, List.getElem?_map, h]; rfl
end Go.Proofs.YtfcemnebhapidaaDoor.Te
