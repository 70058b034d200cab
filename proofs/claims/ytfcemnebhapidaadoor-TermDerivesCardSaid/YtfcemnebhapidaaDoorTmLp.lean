/- Learn, plainly: what holds of what is known from step to step. -/
import Derived.Test.YtfcemnebhapidaaDoorTmPt
set_option linter.unusedVariables false
set_option linter.unusedSimpArgs false
namespace Go.Proofs.YtfcemnebhapidaaDoor.Mp
open Go.RowKit Go.Maps
/-- a map has no more entries than keys -/
theorem RMap.tight {P : Program} {w : World} {k b n s : Nat} {f : Lit → Option Value} (h : RMap P w k b n f s) : RMap P w k b s f s := by
  obtain ⟨D, ⟨es, clock, h1, h2, h3, h4⟩, h5, h6⟩ := h
  refine ⟨D, ⟨es, clock, h1, h2, ?_, h4⟩, h5, h6⟩
  rw [← h5, h4]
  show es.size ≤ ((es.toList.map (WideElems.rg P k raw)).foldr DataW.insert []).length
  rw [length_sorted]
  simp
end Go.Proofs.YtfcemnebhapidaaDoor.Mp
namespace Go.Proofs.YtfcemnebhapidaaDoor.Te
open Go.RowKit
/-- on the way: all of L is known, nothing but what is taken apart of it, all of it stands in U -/
structure St (L U K : List Tm) : Prop where
  nd : K.Nodup
  wf : ∀ t ∈ K, t.wf
  all : ∀ t ∈ L, t ∈ K
  apt : ∀ t ∈ K, Apt (· ∈ L) t
  cls : Cls [] K
  sub : ∀ t ∈ K, t ∈ U
theorem St.take {L U K : List Tm} (h : St L U K) (hU : Hold U) {t : Tm} (ht : t.wf) (htU : t ∈ U) (hA : Apt (· ∈ L) t) : St L U (tk t K) :=
  ⟨tk_nd t K h.nd, tk_wf t K ht h.wf, fun x hx => tk_sub t K (h.all x hx), tk_apt t K hA h.apt, tk_cls t [] K h.cls, tk_in hU t K htU h.sub⟩
theorem St.len {L U K : List Tm} (h : St L U K) : K.length ≤ U.length := nodup_len h.nd h.sub
theorem Hold.app {U V : List Tm} (h : Hold U) (h' : Hold V) : Hold (U ++ V) := fun x hx => by
  rcases List.mem_append.1 hx with hx | hx
  · exact ⟨fun k a e => List.mem_append_left _ ((h x hx).1 k a e), fun k a b e => ⟨List.mem_append_left _ ((h x hx).2 k a b e).1, List.mem_append_left _ ((h x hx).2 k a b e).2⟩⟩
  · exact ⟨fun k a e => List.mem_append_right _ ((h' x hx).1 k a e), fun k a b e => ⟨List.mem_append_right _ ((h' x hx).2 k a b e).1, List.mem_append_right _ ((h' x hx).2 k a b e).2⟩⟩
/-- all that stands in what was learned -/
def univ (L : List Tm) : List Tm := L.flatMap subs
theorem univ_hold : ∀ L : List Tm, Hold (univ L)
  | [] => fun x hx => by simp [univ] at hx
  | t :: L => by
    show Hold (subs t ++ univ L)
    exact Hold.app (fun x hx => subs_hold t hx) (univ_hold L)
theorem univ_snoc (L : List Tm) (t : Tm) : univ (L ++ [t]) = univ L ++ subs t := by unfold univ; rw [List.flatMap_append]; simp
theorem subs_len : ∀ {t : Tm}, t.wf → (subs t).length ≤ t.txt.length
  | .atom s, h => by
    have : s ≠ [] := h.1
    cases s with
    | nil => exact absurd rfl this
    | cons c s => simp [subs, Tm.txt]
  | .one k a, h => by
    have := subs_len h.2
    simp [subs, Tm.txt]; omega
  | .two k a b, h => by
    have h1 := subs_len h.2.2.1
    have h2 := subs_len h.2.2.2.1
    simp [subs, Tm.txt]; omega
theorem univ_len {M : Nat} : ∀ {L : List Tm}, (∀ t ∈ L, t.wf ∧ t.txt.length ≤ M) → (univ L).length ≤ L.length * M
  | [], _ => by simp [univ]
  | t :: L, h => by
    have h1 := univ_len (L := L) (fun u hu => h u (by simp [hu]))
    have h2 := subs_len (h t (by simp)).1
    have h3 := (h t (by simp)).2
    show (subs t ++ univ L).length ≤ _
    rw [List.length_append, List.length_cons, Nat.succ_mul]
    omega
theorem Kn.sub_univ {L K : List Tm} (h : Kn L K) : ∀ t ∈ K, t ∈ univ L := fun t ht => by
  have ha := h.apt t ht
  have hu := univ_hold L
  clear ht
  induction ha with
  | @base t h' => exact List.mem_flatMap.2 ⟨t, h', subs_self t⟩
  | fst _ ih => exact ((hu _ ih).2 _ _ _ rfl).1
  | snd _ ih => exact ((hu _ ih).2 _ _ _ rfl).2
  | sgn _ ih => exact ((hu _ ih).2 _ _ _ rfl).2
  | opn _ _ ih => exact ((hu _ ih).2 _ _ _ rfl).2
/-- one more is learned -/
theorem Kn.start {L K : List Tm} (h : Kn L K) {t : Tm} (ht : t.wf) : St (L ++ [t]) (univ (L ++ [t])) (tk t K) := by
  refine ⟨tk_nd t K h.nd, tk_wf t K ht h.wf, fun x hx => ?_, tk_apt t K (.base (by simp)) (fun x hx => (h.apt x hx).mono fun u hu => by simp [hu]), tk_cls t [] K h.cls, tk_in (univ_hold _) t K ?_ fun x hx => ?_⟩
  · rcases List.mem_append.1 hx with hx | hx
    · exact tk_sub t K (h.all x hx)
    · rw [List.mem_singleton.1 hx]; exact tk_self t K
  · rw [univ_snoc]; exact List.mem_append_right _ (subs_self t)
  · rw [univ_snoc]; exact List.mem_append_left _ (h.sub_univ x hx)
/-- what is sealed is opened -/
theorem St.opens {L U K : List Tm} (h : St L U K) (hU : Hold U) {a b : Tm} (hx : Tm.two 6 a b ∈ K) (hs : syn K a = true) (hn : b ∉ K) : St L U (tk b K) ∧ K.length < (tk b K).length :=
  ⟨h.take hU (h.wf _ hx).2.2.2.1 ((hU _ (h.sub _ hx)).2 _ _ _ rfl).2 (.opn (h.apt _ hx) (syn_der (fun t ht => (h.apt t ht).der) hs)), tk_more hn⟩
/-- nothing is left to be opened -/
theorem St.done {L U K : List Tm} (h : St L U K) (ho : Opn K) : Kn L K := ⟨h.nd, h.wf, h.all, h.apt, h.cls, ho⟩
theorem Kn.nil : Kn [] [] := ⟨List.nodup_nil, fun t h => by simp at h, fun t h => by simp at h, fun t h => by simp at h, fun t h => by simp at h, fun a b h => by simp at h⟩
theorem prts_mem {K : List Tm} {x : List UInt8} : x ∈ prtsOf K ↔ ∃ t ∈ K, t.txt = x := by
  unfold prtsOf
  rw [List.mem_mergeSort, List.mem_map]
end Go.Proofs.YtfcemnebhapidaaDoor.Te
