/- Memory in pieces: each piece stands in blocks of its own; what writes to one piece leaves the others alone. -/
import Derived.Test.YtjfikbnfabdkoaaDoorOwn
set_option linter.unusedVariables false
set_option linter.unusedSimpArgs false
namespace Go.Proofs.YtjfikbnfabdkoaaDoor.Sp
open Go.RowKit
/-- of what was there nothing has turned, save in the blocks s -/
structure Upd (w w' : World) (s : List Nat) : Prop where
  os : w'.os = w.os
  tape : w'.tape = w.tape
  output : w'.output = w.output
  size : w.heap.size ≤ w'.heap.size
  block : ∀ k, k < w.heap.size → k ∉ s → w'.heap[k]? = w.heap[k]?
theorem Upd.refl (w : World) (s : List Nat) : Upd w w s := ⟨rfl, rfl, rfl, Nat.le_refl _, fun _ _ _ => rfl⟩
theorem Upd.trans {a b c : World} {s t : List Nat} (h : Upd a b s) (k : Upd b c t) (ht : ∀ x ∈ t, x ∈ s ∨ a.heap.size ≤ x) : Upd a c s :=
  ⟨k.os.trans h.os, k.tape.trans h.tape, k.output.trans h.output, Nat.le_trans h.size k.size, fun x hx hs => by
    rw [k.block x (Nat.lt_of_lt_of_le hx h.size) (fun hxt => by rcases ht x hxt with h1 | h1; exact hs h1; omega)]
    exact h.block x hx hs⟩
theorem Upd.of_below {w w' : World} (h : Below w.heap.size w w') : Upd w w' [] := ⟨h.os, h.tape, h.output, h.size, fun k hk _ => h.block k hk⟩
theorem Upd.below {w w' : World} (h : Upd w w' []) : Below w.heap.size w w' := ⟨h.os, h.tape, h.output, h.size, fun k hk => h.block k hk (by simp)⟩
theorem Upd.of_grown {w w' : World} {row : Option Nat} (h : w.grownBy w' row) : Upd w w' row.toList :=
  ⟨h.os, h.tape, h.output, h.size, fun k hk hs => h.block k hk (fun e => hs (by rw [← e]; simp))⟩
theorem Upd.of_grown1 {w w' : World} {b : Nat} (h : w.grownBy w' (some b)) : Upd w w' [b] := Upd.of_grown h
theorem Upd.of_grown0 {w w' : World} (h : w.grownBy w' none) : Upd w w' [] := Upd.of_grown h
theorem Upd.grown1 {w w' : World} {b : Nat} (h : Upd w w' [b]) : w.grownBy w' (some b) := ⟨h.os, h.tape, h.output, h.size, fun k hk hs => h.block k hk (by intro e; exact hs (by simpa using e))⟩
/-- a piece: what it says of the world, and the blocks that it stands in -/
structure Asn where
  at_ : World → List Nat → Prop
  nd : ∀ {w s}, at_ w s → s.Nodup
  lt : ∀ {w s}, at_ w s → ∀ k ∈ s, k < w.heap.size
  keep : ∀ {w w' : World} {s}, at_ w s → (∀ k ∈ s, w'.heap[k]? = w.heap[k]?) → at_ w' s
def Holds (w : World) : List Asn → List (List Nat) → Prop
  | [], [] => True
  | P :: L, s :: ss => P.at_ w s ∧ Holds w L ss
  | _, _ => False
theorem Holds.get {w : World} : ∀ {L : List Asn} {ss : List (List Nat)}, Holds w L ss → ∀ {i : Nat} {P : Asn}, L[i]? = some P → ∃ s, ss[i]? = some s ∧ P.at_ w s
  | [], [], _, i, P, hi => by simp at hi
  | P :: L, s :: ss, h, 0, Q, hi => by simp at hi; subst hi; exact ⟨s, rfl, h.1⟩
  | P :: L, s :: ss, h, i + 1, Q, hi => by obtain ⟨t, ht, hQ⟩ := Holds.get h.2 (i := i) (by simpa using hi); exact ⟨t, by simpa using ht, hQ⟩
  | [], _ :: _, h, _, _, _ => by cases h
  | _ :: _, [], h, _, _, _ => by cases h
theorem Holds.keep {w w' : World} : ∀ {L : List Asn} {ss : List (List Nat)}, Holds w L ss → (∀ k ∈ ss.flatten, w'.heap[k]? = w.heap[k]?) → Holds w' L ss
  | [], [], _, _ => trivial
  | P :: L, s :: ss, h, hk => ⟨P.keep h.1 (fun k hs => hk k (by simp [hs])), Holds.keep h.2 (fun k hs => hk k (by rw [List.flatten_cons]; exact List.mem_append_right _ hs))⟩
  | [], _ :: _, h, _ => by cases h
  | _ :: _, [], h, _ => by cases h
theorem Holds.lt {w : World} : ∀ {L : List Asn} {ss : List (List Nat)}, Holds w L ss → ∀ k ∈ ss.flatten, k < w.heap.size
  | [], [], _, k, hk => by simp at hk
  | P :: L, s :: ss, h, k, hk => by
    rw [List.flatten_cons, List.mem_append] at hk
    rcases hk with hk | hk
    · exact P.lt h.1 k hk
    · exact Holds.lt h.2 k hk
  | [], _ :: _, h, _, _ => by cases h
  | _ :: _, [], h, _, _ => by cases h
theorem Holds.append {w : World} : ∀ {L M : List Asn} {ss tt : List (List Nat)}, Holds w L ss → Holds w M tt → Holds w (L ++ M) (ss ++ tt)
  | [], _, [], _, _, h => h
  | _ :: _, _, _ :: _, _, h, k => ⟨h.1, Holds.append h.2 k⟩
  | [], _, _ :: _, _, h, _ => by cases h
  | _ :: _, _, [], _, h, _ => by cases h
theorem Holds.set {w w' : World} {Q : Asn} {t : List Nat} (hQ : Q.at_ w' t) : ∀ {L : List Asn} {ss : List (List Nat)}, Holds w L ss → ∀ {i : Nat} {s : List Nat}, ss[i]? = some s → ss.flatten.Nodup → (∀ k ∈ ss.flatten, k ∉ s → w'.heap[k]? = w.heap[k]?) → Holds w' (L.set i Q) (ss.set i t)
  | [], [], _, i, s, hi, _, _ => by simp at hi
  | P :: L, s :: ss, h, 0, s', hi, hn, hk => by
    simp at hi; subst hi
    rw [List.flatten_cons, List.nodup_append] at hn
    exact ⟨hQ, Holds.keep h.2 (fun k hs => hk k (by rw [List.flatten_cons]; exact List.mem_append_right _ hs) (fun h1 => hn.2.2 k h1 k hs rfl))⟩
  | P :: L, s :: ss, h, i + 1, s', hi, hn, hk => by
    rw [List.flatten_cons, List.nodup_append] at hn
    have hi' : ss[i]? = some s' := by simpa using hi
    refine ⟨P.keep h.1 (fun k hs => hk k (by simp [hs]) (fun h1 => hn.2.2 k hs k ?_ rfl)), Holds.set hQ h.2 hi' hn.2.1 (fun k hs => hk k (by rw [List.flatten_cons]; exact List.mem_append_right _ hs))⟩
    exact List.mem_flatten.2 ⟨s', List.mem_of_getElem? hi', h1⟩
  | [], _ :: _, h, _, _, _, _, _ => by cases h
  | _ :: _, [], h, _, _, _, _, _ => by cases h
theorem flat_set_mem {ss : List (List Nat)} {i : Nat} {t : List Nat} {k : Nat} (h : k ∈ (ss.set i t).flatten) : k ∈ t ∨ k ∈ ss.flatten := by
  obtain ⟨u, hu, hk⟩ := List.mem_flatten.1 h
  rcases List.mem_or_eq_of_mem_set hu with h1 | h1
  · exact .inr (List.mem_flatten.2 ⟨u, h1, hk⟩)
  · subst h1; exact .inl hk
theorem flat_set_nodup {t : List Nat} (ht : t.Nodup) : ∀ {ss : List (List Nat)} {i : Nat} {s : List Nat}, ss[i]? = some s → ss.flatten.Nodup → (∀ k ∈ t, k ∈ s ∨ k ∉ ss.flatten) → (ss.set i t).flatten.Nodup
  | [], i, s, hi, _, _ => by simp at hi
  | s :: ss, 0, s', hi, hn, hk => by
    simp at hi; subst hi
    rw [List.flatten_cons, List.nodup_append] at hn
    simp only [List.set_cons_zero, List.flatten_cons]
    rw [List.nodup_append]
    refine ⟨ht, hn.2.1, fun a ha b hb e => ?_⟩
    subst e
    rcases hk a ha with h1 | h1
    · exact hn.2.2 a h1 a hb rfl
    · exact h1 (by rw [List.flatten_cons]; exact List.mem_append_right _ hb)
  | s :: ss, i + 1, s', hi, hn, hk => by
    have hi' : ss[i]? = some s' := by simpa using hi
    rw [List.flatten_cons, List.nodup_append] at hn
    simp only [List.set_cons_succ, List.flatten_cons]
    rw [List.nodup_append]
    refine ⟨hn.1, flat_set_nodup ht hi' hn.2.1 (fun k hkt => ?_), fun a ha b hb e => ?_⟩
    · rcases hk k hkt with h1 | h1
      · exact .inl h1
      · exact .inr (fun h2 => h1 (by rw [List.flatten_cons]; exact List.mem_append_right _ h2))
    · subst e
      rcases flat_set_mem hb with h1 | h1
      · rcases hk a h1 with h2 | h2
        · exact hn.2.2 a ha a (List.mem_flatten.2 ⟨s', List.mem_of_getElem? hi', h2⟩) rfl
        · exact h2 (by rw [List.flatten_cons]; exact List.mem_append_left _ ha)
      · exact hn.2.2 a ha a h1 rfl
/-- from w0 on only the blocks s0 and new ones were written; w holds the pieces L, apart, in such blocks -/
structure Mem (w0 : World) (s0 : List Nat) (w : World) (L : List Asn) : Prop where
  upd : Upd w0 w s0
  ex : ∃ ss, Holds w L ss ∧ ss.flatten.Nodup ∧ ∀ k ∈ ss.flatten, k ∈ s0 ∨ w0.heap.size ≤ k
theorem Mem.start (w : World) : Mem w [] w [] := ⟨Upd.refl w [], [], trivial, by simp, by simp⟩
theorem Mem.enter {w : World} {s : List Nat} {P : Asn} (h : P.at_ w s) : Mem w s w [P] := ⟨Upd.refl w s, [s], ⟨h, trivial⟩, by simpa using P.nd h, fun k hk => .inl (by simpa using hk)⟩
theorem Mem.bel {w0 w : World} {L : List Asn} (h : Mem w0 [] w L) : Below w0.heap.size w0 w := h.upd.below
theorem Mem.size {w0 w : World} {s0 : List Nat} {L : List Asn} (h : Mem w0 s0 w L) : w0.heap.size ≤ w.heap.size := h.upd.size
theorem Mem.of_below {w0 w : World} (h : Below w0.heap.size w0 w) : Mem w0 [] w [] := ⟨Upd.of_below h, [], trivial, by simp, by simp⟩
theorem Mem.get {w0 w : World} {s0 : List Nat} {L : List Asn} (h : Mem w0 s0 w L) (i : Nat) {P : Asn} (hi : L[i]? = some P) : ∃ s, P.at_ w s ∧ ∀ k ∈ s, k ∈ s0 ∨ w0.heap.size ≤ k := by
  obtain ⟨ss, hH, _, hs⟩ := h.ex
  obtain ⟨s, hsi, hP⟩ := hH.get hi
  exact ⟨s, hP, fun k hk => hs k (List.mem_flatten.2 ⟨s, List.mem_of_getElem? hsi, hk⟩)⟩
theorem Mem.below {w0 w w' : World} {s0 : List Nat} {L : List Asn} (h : Mem w0 s0 w L) (hb : Below w.heap.size w w') : Mem w0 s0 w' L := by
  obtain ⟨ss, hH, hn, hs⟩ := h.ex
  exact ⟨h.upd.trans (Upd.of_below hb) (by simp), ss, hH.keep (fun k hk => hb.block k (hH.lt k hk)), hn, hs⟩
/-- a call that made pieces of its own -/
theorem Mem.call0 {w0 w w' : World} {s0 : List Nat} {L N : List Asn} (h : Mem w0 s0 w L) (hc : Mem w [] w' N) : Mem w0 s0 w' (L ++ N) := by
  obtain ⟨ss, hH, hn, hs⟩ := h.ex
  obtain ⟨tt, hT, hm, ht⟩ := hc.ex
  have hlt := hH.lt
  have hge : ∀ k ∈ tt.flatten, w.heap.size ≤ k := fun k hk => by
    rcases ht k hk with h1 | h1
    · simp at h1
    · exact h1
  refine ⟨h.upd.trans hc.upd (by simp), ss ++ tt, (hH.keep (fun k hk => hc.bel.block k (hlt k hk))).append hT, ?_, ?_⟩
  · rw [List.flatten_append, List.nodup_append]
    exact ⟨hn, hm, fun a ha b hb e => by subst e; have := hlt a ha; have := hge a hb; omega⟩
  · intro k hk
    rw [List.flatten_append, List.mem_append] at hk
    rcases hk with hk | hk
    · exact hs k hk
    · exact .inr (Nat.le_trans h.size (hge k hk))
theorem flat_set_out {t : List Nat} {k : Nat} : ∀ {ss : List (List Nat)} {i : Nat} {s : List Nat}, ss[i]? = some s → ss.flatten.Nodup → k ∈ (ss.set i t).flatten → k ∈ t ∨ (k ∈ ss.flatten ∧ k ∉ s)
  | [], i, s, hi, _, _ => by simp at hi
  | s :: ss, 0, s', hi, hn, hk => by
    simp at hi; subst hi
    rw [List.flatten_cons, List.nodup_append] at hn
    rw [List.set_cons_zero, List.flatten_cons, List.mem_append] at hk
    rcases hk with h1 | h1
    · exact .inl h1
    · exact .inr ⟨by rw [List.flatten_cons]; exact List.mem_append_right _ h1, fun h2 => hn.2.2 k h2 k h1 rfl⟩
  | s :: ss, i + 1, s', hi, hn, hk => by
    have hi' : ss[i]? = some s' := by simpa using hi
    rw [List.flatten_cons, List.nodup_append] at hn
    rw [List.set_cons_succ, List.flatten_cons, List.mem_append] at hk
    rcases hk with h1 | h1
    · exact .inr ⟨by rw [List.flatten_cons]; exact List.mem_append_left _ h1, fun h2 => hn.2.2 k h1 k (List.mem_flatten.2 ⟨s', List.mem_of_getElem? hi', h2⟩) rfl⟩
    · rcases flat_set_out hi' hn.2.1 h1 with h2 | h2
      · exact .inl h2
      · exact .inr ⟨by rw [List.flatten_cons]; exact List.mem_append_right _ h2.1, h2.2⟩
/-- one piece, handed to what writes in its blocks alone -/
theorem Mem.at_ {w0 w : World} {s0 : List Nat} {L : List Asn} (h : Mem w0 s0 w L) (i : Nat) {P : Asn} (hi : L[i]? = some P) :
    ∃ s, P.at_ w s ∧ ∀ {w' : World} {Q : Asn} {N : List Asn}, Mem w s w' (Q :: N) → Mem w0 s0 w' (L.set i Q ++ N) := by
  obtain ⟨ss, hH, hn, hs⟩ := h.ex
  obtain ⟨s, hsi, hP⟩ := hH.get hi
  have hlt := hH.lt
  have hmem : ∀ k ∈ s, k ∈ ss.flatten := fun k hk => List.mem_flatten.2 ⟨s, List.mem_of_getElem? hsi, hk⟩
  refine ⟨s, hP, fun {w' Q N} hc => ?_⟩
  obtain ⟨tt, hT, hm, ht⟩ := hc.ex
  cases tt with
  | nil => cases hT
  | cons t tt =>
    rw [List.flatten_cons, List.nodup_append] at hm
    have htin : ∀ k ∈ t, k ∈ s ∨ w.heap.size ≤ k := fun k hk => ht k (by rw [List.flatten_cons]; exact List.mem_append_left _ hk)
    have httin : ∀ k ∈ tt.flatten, k ∈ s ∨ w.heap.size ≤ k := fun k hk => ht k (by rw [List.flatten_cons]; exact List.mem_append_right _ hk)
    refine ⟨h.upd.trans hc.upd (fun k hk => hs k (hmem k hk)), ss.set i t ++ tt, (hH.set hT.1 hsi hn (fun k hk hns => hc.upd.block k (hlt k hk) hns)).append hT.2, ?_, ?_⟩
    · rw [List.flatten_append, List.nodup_append]
      refine ⟨flat_set_nodup hm.1 hsi hn (fun k hk => ?_), hm.2.1, fun a ha b hb e => ?_⟩
      · rcases htin k hk with h1 | h1
        · exact .inl h1
        · exact .inr (fun h2 => by have := hlt k h2; omega)
      · subst e
        rcases flat_set_out hsi hn ha with h1 | h1
        · exact hm.2.2 a h1 a hb rfl
        · rcases httin a hb with h2 | h2
          · exact h1.2 h2
          · have := hlt a h1.1; omega
    · intro k hk
      rw [List.flatten_append, List.mem_append] at hk
      have up : k ∈ s ∨ w.heap.size ≤ k → k ∈ s0 ∨ w0.heap.size ≤ k := fun h1 => by
        rcases h1 with h1 | h1
        · exact hs k (hmem k h1)
        · exact .inr (Nat.le_trans h.size h1)
      rcases hk with hk | hk
      · rcases flat_set_out hsi hn hk with h1 | h1
        · exact up (htin k h1)
        · exact hs k h1.1
      · exact up (httin k hk)
theorem Mem.set1 {w0 w : World} {s0 : List Nat} {L : List Asn} (h : Mem w0 s0 w L) (i : Nat) {P : Asn} (hi : L[i]? = some P) :
    ∃ s, P.at_ w s ∧ ∀ {w' : World} {Q : Asn}, Mem w s w' [Q] → Mem w0 s0 w' (L.set i Q) := by
  obtain ⟨s, hP, hK⟩ := h.at_ i hi
  exact ⟨s, hP, fun {w' Q} hc => by simpa using hK hc⟩
/-- a piece is let go -/
theorem Mem.drop {w0 w : World} {s0 : List Nat} {P : Asn} {L : List Asn} (h : Mem w0 s0 w (P :: L)) : Mem w0 s0 w L := by
  obtain ⟨ss, hH, hn, hs⟩ := h.ex
  cases ss with
  | nil => cases hH
  | cons s ss =>
    rw [List.flatten_cons, List.nodup_append] at hn
    exact ⟨h.upd, ss, hH.2, hn.2.1, fun k hk => hs k (by rw [List.flatten_cons]; exact List.mem_append_right _ hk)⟩
theorem Mem.nil {w0 w : World} {s0 : List Nat} {L : List Asn} (h : Mem w0 s0 w L) : Mem w0 s0 w [] := ⟨h.upd, [], trivial, by simp, by simp⟩
theorem Holds.perm {w : World} {L M : List Asn} (hp : L.Perm M) : ∀ {ss : List (List Nat)}, Holds w L ss → ∃ tt, Holds w M tt ∧ ss.Perm tt := by
  induction hp with
  | nil => intro ss h; exact ⟨ss, h, List.Perm.refl _⟩
  | cons x _ ih =>
    intro ss h
    cases ss with
    | nil => cases h
    | cons s ss => obtain ⟨tt, h1, h2⟩ := ih h.2; exact ⟨s :: tt, ⟨h.1, h1⟩, h2.cons s⟩
  | swap x y l =>
    intro ss h
    match ss, h with
    | a :: b :: ss, h => exact ⟨b :: a :: ss, ⟨h.2.1, h.1, h.2.2⟩, List.Perm.swap b a ss⟩
  | trans _ _ ih1 ih2 =>
    intro ss h
    obtain ⟨tt, h1, h2⟩ := ih1 h
    obtain ⟨uu, h3, h4⟩ := ih2 h1
    exact ⟨uu, h3, h2.trans h4⟩
theorem flat_perm {a b : List (List Nat)} (h : a.Perm b) : a.flatten.Perm b.flatten := h.flatten
theorem Mem.perm {w0 w : World} {s0 : List Nat} {L M : List Asn} (h : Mem w0 s0 w L) (hp : L.Perm M) : Mem w0 s0 w M := by
  obtain ⟨ss, hH, hn, hs⟩ := h.ex
  obtain ⟨tt, hT, hp2⟩ := hH.perm hp
  have hf := flat_perm hp2
  exact ⟨h.upd, tt, hT, hf.nodup_iff.1 hn, fun k hk => hs k (hf.mem_iff.2 hk)⟩
/-- two pieces as one -/
def star (P Q : Asn) : Asn where
  at_ w s := ∃ a b, s = a ++ b ∧ P.at_ w a ∧ Q.at_ w b ∧ (a ++ b).Nodup
  nd := by rintro w s ⟨a, b, rfl, _, _, h⟩; exact h
  lt := by
    rintro w s ⟨a, b, rfl, hP, hQ, _⟩ k hk
    rcases List.mem_append.1 hk with h | h
    · exact P.lt hP k h
    · exact Q.lt hQ k h
  keep := by
    rintro w w' s ⟨a, b, rfl, hP, hQ, hn⟩ hk
    exact ⟨a, b, rfl, P.keep hP (fun k h => hk k (List.mem_append_left _ h)), Q.keep hQ (fun k h => hk k (List.mem_append_right _ h)), hn⟩
/-- a piece under a quantifier -/
def ex {α : Type} (P : α → Asn) : Asn where
  at_ w s := ∃ x, (P x).at_ w s
  nd := by rintro w s ⟨x, h⟩; exact (P x).nd h
  lt := by rintro w s ⟨x, h⟩; exact (P x).lt h
  keep := by rintro w w' s ⟨x, h⟩ hk; exact ⟨x, (P x).keep h hk⟩
/-- a piece with a plain condition -/
def wh (p : Prop) (P : Asn) : Asn where
  at_ w s := p ∧ P.at_ w s
  nd := by rintro w s ⟨_, h⟩; exact P.nd h
  lt := by rintro w s ⟨_, h⟩; exact P.lt h
  keep := by rintro w w' s ⟨hp, h⟩ hk; exact ⟨hp, P.keep h hk⟩
def emp : Asn where
  at_ _ s := s = []
  nd := by rintro _ _ rfl; simp
  lt := by rintro _ _ rfl; simp
  keep := by rintro _ _ _ rfl _; rfl
/-- block b is the row cs -/
def blk (b T : Nat) (cs : Array Value) : Asn where
  at_ w s := s = [b] ∧ Rg.Blk w b T cs
  nd := by rintro _ _ ⟨rfl, _⟩; simp
  lt := by rintro _ _ ⟨rfl, h⟩ k hk; simp at hk; subst hk; exact h.lt
  keep := by rintro w w' _ ⟨rfl, h⟩ hk; exact ⟨rfl, by unfold Rg.Blk; rw [hk b (by simp)]; exact h⟩
theorem ownsRow_keep {w w' : World} {B : Nat} {E size : Nat} {v : Value} {n : Nat} {xs : List Value} (h : w.ownsRow B E size v n xs) (hk : ∀ k, v.ownBlock = some k → w'.heap[k]? = w.heap[k]?) : w'.ownsRow B E size v n xs := by
  refine ⟨h.1, ?_⟩
  rcases h.2 with h0 | ⟨g, cap, cur, hv, hb, hg, rest⟩
  · exact .inl h0
  · exact .inr ⟨g, cap, cur, hv, hb, (hk g (by rw [hv]; rfl)).trans hg, rest⟩
/-- v is a slice of n elements of size cells, xs, in a block of its own -/
def ownR (E size : Nat) (v : Value) (n : Nat) (xs : List Value) : Asn where
  at_ w s := s = v.ownBlock.toList ∧ w.ownsRow 0 E size v n xs
  nd := by rintro _ _ ⟨rfl, _⟩; cases v.ownBlock <;> simp
  lt := by rintro w _ ⟨rfl, h⟩ k hk; exact (World.ownsRow.lt h k (by simpa using hk)).2
  keep := by rintro w w' _ ⟨rfl, h⟩ hk; exact ⟨rfl, ownsRow_keep h (fun k hk' => hk k (by rw [hk']; simp))⟩
/-- v is a slice that holds xs, in a block of its own -/
def own (E : TypeId) (v : Value) (xs : List Value) : Asn := ownR E 1 v xs.length xs
theorem own_mk {w : World} {B : Nat} {E : TypeId} {v : Value} {xs : List Value} (h : Ow.Owns w B E v xs) : (own E v xs).at_ w v.ownBlock.toList := ⟨rfl, ⟨h.1, h.2.imp id (fun ⟨g, cap, cur, hv, hb, rest⟩ => ⟨g, cap, cur, hv, Nat.zero_le _, rest⟩)⟩⟩
theorem own_nil (w : World) (E : TypeId) : (own E (.slice none 0 0) []).at_ w [] := own_mk (Ow.Owns.nil w 0 E)
section
variable {w0 w w' : World} {s0 : List Nat} {L : List Asn}
theorem Mem.blk (h : Mem w0 s0 w L) (i : Nat) {b T : Nat} {cs : Array Value} (hi : L[i]? = some (blk b T cs)) : Rg.Blk w b T cs := by
  obtain ⟨s, hP, _⟩ := h.get i hi
  exact hP.2
theorem Mem.own (h : Mem w0 s0 w L) (i : Nat) {E : Nat} {v : Value} {xs : List Value} (hi : L[i]? = some (own E v xs)) : Ow.Owns w 0 E v xs := by
  obtain ⟨s, hP, _⟩ := h.get i hi
  exact hP.2
theorem Mem.blkNe (h : Mem w0 [] w L) (i : Nat) {b T : Nat} {cs : Array Value} (hi : L[i]? = some (Sp.blk b T cs)) : w0.heap.size ≤ b := by
  obtain ⟨s, hP, hs⟩ := h.get i hi
  have := hs b (by rw [hP.1]; simp)
  simpa using this
/-- a new block -/
theorem Mem.alloc (h : Mem w0 s0 w L) (cs : Array Value) (T : Nat) : Mem w0 s0 (w.alloc (.cells cs T)) (L ++ [Sp.blk w.heap.size T cs]) :=
  h.call0 ⟨Upd.of_below ((Below.refl _ _).alloc (Nat.le_refl _) _), [[w.heap.size]], ⟨⟨rfl, Rg.Blk.new w _ _⟩, trivial⟩, by simp, by simp⟩
theorem Mem.allocO (h : Mem w0 s0 w L) (o : Obj) : Mem w0 s0 (w.alloc o) L := h.below ((Below.refl _ _).alloc (Nat.le_refl _) _)
theorem Mem.drew (h : Mem w0 s0 w L) : Mem w0 s0 w.drew L := h.below (Below.drew (Below.refl _ _))
/-- an empty slice -/
theorem Mem.nilOwn (h : Mem w0 s0 w L) (E : Nat) : Mem w0 s0 w (L ++ [Sp.own E (.slice none 0 0) []]) :=
  h.call0 ⟨Upd.refl _ _, [[]], ⟨own_nil w E, trivial⟩, by simp, by simp⟩
/-- a slice that was made -/
theorem Mem.newOwn (h : Mem w0 s0 w L) {w' : World} {E : Nat} {v : Value} {xs : List Value} (ho : Ow.Owns w' w.heap.size E v xs) (hb : Below w.heap.size w w') : Mem w0 s0 w' (L ++ [Sp.own E v xs]) :=
  h.call0 ⟨Upd.of_below hb, [v.ownBlock.toList], ⟨own_mk ho, trivial⟩, by cases v.ownBlock <;> simp, fun k hk => .inr (ho.lt k (by simpa using hk)).1⟩
/-- block b was written -/
theorem Mem.store (h : Mem w0 s0 w L) (i : Nat) {b T T' : Nat} {cs cs' : Array Value} (hi : L[i]? = some (Sp.blk b T cs)) (hb : Rg.Blk w' b T' cs') (hg : w.grownBy w' (some b)) : Mem w0 s0 w' (L.set i (Sp.blk b T' cs')) := by
  obtain ⟨s, ⟨rfl, _⟩, hK⟩ := h.set1 i hi
  exact hK ⟨Upd.of_grown1 hg, [[b]], ⟨⟨rfl, hb⟩, trivial⟩, by simp, by simp⟩
/-- a slice was written, or carried over into a new block -/
theorem Mem.app (h : Mem w0 s0 w L) (i : Nat) {E : Nat} {v v' : Value} {xs ys : List Value} (hi : L[i]? = some (Sp.own E v xs)) (ho : Ow.Owns w' 0 E v' ys) (hg : w.grownBy w' v.ownBlock) (hat : v'.ownBlock = v.ownBlock ∨ ∃ k, v'.ownBlock = some k ∧ w.heap.size ≤ k) : Mem w0 s0 w' (L.set i (Sp.own E v' ys)) := by
  obtain ⟨s, ⟨rfl, _⟩, hK⟩ := h.set1 i hi
  refine hK ⟨Upd.of_grown hg, [v'.ownBlock.toList], ⟨own_mk ho, trivial⟩, by cases v'.ownBlock <;> simp, fun k hk => ?_⟩
  rcases hat with e | ⟨k', e, hk'⟩
  · exact .inl (by rw [← e]; simpa using hk)
  · exact .inr (by rw [e] at hk; simp at hk; omega)
/-- what was there at the start reads as it did -/
theorem Mem.rd (h : Mem w0 [] w L) {A : Option Addr} {xs : List Value} (hR : Ow.Rd w0 A xs) : Ow.Rd w A xs := hR.below h.bel
end
/-- many pieces as one -/
def many (M : List Asn) : Asn where
  at_ w s := ∃ ss, s = ss.flatten ∧ s.Nodup ∧ Holds w M ss
  nd := by rintro w s ⟨ss, rfl, hn, _⟩; exact hn
  lt := by rintro w s ⟨ss, rfl, _, h⟩; exact h.lt
  keep := by rintro w w' s ⟨ss, rfl, hn, h⟩ hk; exact ⟨ss, rfl, hn, h.keep hk⟩
theorem Mem.upd0 {w0 w w' : World} {s0 : List Nat} {L : List Asn} (h : Mem w0 s0 w L) (hu : Upd w w' []) : Mem w0 s0 w' L := h.below hu.below
theorem many_nil (w : World) : (many []).at_ w [] := ⟨[], rfl, by simp, trivial⟩
/-- one more of many -/
theorem Mem.absorb {w0 w : World} {s0 : List Nat} {L M : List Asn} {P : Asn} (h : Mem w0 s0 w (L ++ [many M, P])) : Mem w0 s0 w (L ++ [many (M ++ [P])]) := by
  obtain ⟨ss, hH, hn, hs⟩ := (h.perm (M := [many M, P] ++ L) List.perm_append_comm).ex
  match ss, hH with
  | a :: b :: ss, ⟨⟨aa, ha1, ha2, ha3⟩, hb, hL⟩ =>
    refine Mem.perm (L := [many (M ++ [P])] ++ L) ⟨h.upd, (a ++ b) :: ss, ⟨⟨aa ++ [b], by subst ha1; simp, ?_, ha3.append (M := [P]) (tt := [b]) ⟨hb, trivial⟩⟩, hL⟩, ?_, ?_⟩ List.perm_append_comm
    · rw [List.flatten_cons, List.flatten_cons, ← List.append_assoc, List.nodup_append] at hn
      exact hn.1
    · rw [List.flatten_cons, List.flatten_cons, ← List.append_assoc] at hn
      rw [List.flatten_cons]; exact hn
    · intro k hk
      refine hs k ?_
      rw [List.flatten_cons, List.flatten_cons, ← List.append_assoc]
      rw [List.flatten_cons] at hk; exact hk
theorem Mem.manyNil {w0 w : World} {s0 : List Nat} {L : List Asn} (h : Mem w0 s0 w L) : Mem w0 s0 w (L ++ [many []]) :=
  h.call0 ⟨Upd.refl _ _, [[]], ⟨many_nil w, trivial⟩, by simp, by simp⟩
theorem Mem.manyGet {w0 w : World} {s0 : List Nat} {L M : List Asn} (h : Mem w0 s0 w L) (i : Nat) (hi : L[i]? = some (many M)) {j : Nat} {P : Asn} (hj : M[j]? = some P) : ∃ s, P.at_ w s := by
  obtain ⟨s, ⟨ss, _, _, hM⟩, _⟩ := h.get i hi
  obtain ⟨t, _, ht⟩ := hM.get hj
  exact ⟨t, ht⟩
/-- the pieces, seen from a world that has kept their blocks -/
theorem Mem.seen {w0 w V : World} {s0 : List Nat} {L : List Asn} (h : Mem w0 s0 w L) (hV : ∀ k, k < w.heap.size → (k ∈ s0 ∨ w0.heap.size ≤ k) → V.heap[k]? = w.heap[k]?) : ∃ ss, Holds V L ss := by
  obtain ⟨ss, hH, _, hs⟩ := h.ex
  exact ⟨ss, hH.keep (fun k hk => hV k (hH.lt k hk) (hs k hk))⟩
theorem Holds.owns {w : World} {L : List Asn} {ss : List (List Nat)} (h : Holds w L ss) (i : Nat) {E : Nat} {v : Value} {xs : List Value} (hi : L[i]? = some (own E v xs)) : Ow.Owns w 0 E v xs := by
  obtain ⟨s, _, hP⟩ := h.get hi
  exact hP.2
theorem Holds.many {w : World} {L M : List Asn} {ss : List (List Nat)} (h : Holds w L ss) (i : Nat) (hi : L[i]? = some (Sp.many M)) : ∃ tt, Holds w M tt := by
  obtain ⟨s, _, ⟨tt, _, _, hM⟩⟩ := h.get hi
  exact ⟨tt, hM⟩
/-- slices below B read as they did in a world that kept what lay below B -/
theorem rd_keep {w V : World} {A : Option Addr} {xs : List Value} (h : Ow.Rd w A xs) (hs : w.heap.size ≤ V.heap.size) (hV : ∀ k, k < w.heap.size → V.heap[k]? = w.heap[k]?) : Ow.Rd V A xs := fun j x hx => by
  obtain ⟨b, o, hA, hl, hc⟩ := h j x hx
  exact ⟨b, o, hA, Nat.lt_of_lt_of_le hl hs, (World.cell?_of_block (w := w) (hV b hl)).trans hc⟩
/-- V is as w, save in the blocks from a to b -/
structure Out (a b : Nat) (w V : World) : Prop where
  size : w.heap.size ≤ V.heap.size
  keep : ∀ k, k < w.heap.size → (k < a ∨ b ≤ k) → V.heap[k]? = w.heap[k]?
theorem Out.refl (a b : Nat) (w : World) : Out a b w w := ⟨Nat.le_refl _, fun _ _ _ => rfl⟩
theorem Out.below {a b : Nat} {w V V' : World} (h : Out a b w V) (hb : Below V.heap.size V V') : Out a b w V' :=
  ⟨Nat.le_trans h.size hb.size, fun k hk ho => (hb.block k (Nat.lt_of_lt_of_le hk h.size)).trans (h.keep k hk ho)⟩
theorem Out.grown {a b g : Nat} {w V V' : World} (h : Out a b w V) (hb : V.grownBy V' (some g)) (hg : a ≤ g) (hg2 : g < b) : Out a b w V' :=
  ⟨Nat.le_trans h.size hb.size, fun k hk ho => (hb.block k (Nat.lt_of_lt_of_le hk h.size) (fun e => by injection e with e; omega)).trans (h.keep k hk ho)⟩
end Go.Proofs.YtjfikbnfabdkoaaDoor.Sp
