/- Offers: the plain law. -/
import Derived.Test.YtjfikbnfabdkoaaDoorMsgA
set_option linter.unusedVariables false
set_option linter.unusedSimpArgs false
namespace Go.Proofs.YtjfikbnfabdkoaaDoor.Of
open Go.Proofs.YtjfikbnfabdkoaaDoor.Wi Go.Proofs.YtjfikbnfabdkoaaDoor.Be Go.Proofs.YtjfikbnfabdkoaaDoor.Mg
def e0 : ByteArray := ⟨#[]⟩
def cipherB : ByteArray := ⟨#[99, 104, 97, 99, 104, 97, 50, 48, 45, 112, 111, 108, 121, 49, 51, 48, 53]⟩
def impliedB : ByteArray := ⟨#[105, 109, 112, 108, 105, 101, 100]⟩
/-- the first of the client's that is among the server's -/
def chooseL (c s : List ByteArray) : Option ByteArray := c.find? fun x => Lib.containsS s x
theorem choose_none {c s : List ByteArray} (h : ∀ (j : Nat) (x : ByteArray), c[j]? = some x → x ∉ s) : chooseL c s = none := by
  unfold chooseL
  rw [List.find?_eq_none]
  intro x hx
  obtain ⟨j, hj⟩ := List.mem_iff_getElem?.1 hx
  rw [Lib.containsS_iff]
  exact h j x hj
theorem choose_hit : ∀ {c s : List ByteArray} {k : Nat} {x : ByteArray}, (∀ (j : Nat) (y : ByteArray), j < k → c[j]? = some y → y ∉ s) → c[k]? = some x → x ∈ s → chooseL c s = some x
  | [], s, k, x, _, hk, _ => by simp at hk
  | y :: c, s, 0, x, _, hk, hx => by
    simp at hk; subst hk
    unfold chooseL
    rw [List.find?_cons_of_pos (by rw [Lib.containsS_iff]; exact hx)]
  | y :: c, s, k + 1, x, h, hk, hx => by
    have h0 := h 0 y (by omega) rfl
    unfold chooseL
    rw [List.find?_cons_of_neg (by rw [Lib.containsS_iff]; exact h0)]
    exact choose_hit (k := k) (fun j z hj hz => h (j + 1) z (by omega) (by simpa using hz)) (by simpa using hk) hx
theorem choose_some {c s : List ByteArray} {x : ByteArray} (h : chooseL c s = some x) : x ∈ s ∧ x ∈ c := by
  unfold chooseL at h
  exact ⟨(Lib.containsS_iff _ _).1 (List.find?_some h), List.mem_of_find?_eq_some h⟩
/-- ahead of what was chosen nothing is the server's -/
theorem choose_ahead : ∀ {c s : List ByteArray} {x : ByteArray}, chooseL c s = some x → ∀ (k : Nat) (y : ByteArray), c[k]? = some y → (∀ (j : Nat) (z : ByteArray), j < k → c[j]? = some z → z ≠ x) → y ≠ x → y ∉ s
  | [], s, x, h, k, y, hk, _, _ => by simp at hk
  | z :: c, s, x, h, k, y, hk, hz, hy => by
    by_cases hzs : z ∈ s
    · have : x = z := by
        unfold chooseL at h
        rw [List.find?_cons_of_pos (by rw [Lib.containsS_iff]; exact hzs)] at h
        injection h with h; exact h.symm
      subst this
      match k, hk with
      | 0, hk => simp at hk; exact absurd hk.symm hy
      | k + 1, hk => exact absurd rfl (hz 0 x (by omega) rfl)
    · have h2 : chooseL c s = some x := by
        unfold chooseL at h ⊢
        rw [List.find?_cons_of_neg (by rw [Lib.containsS_iff]; exact hzs)] at h
        exact h
      match k, hk with
      | 0, hk => simp at hk; subst hk; exact hzs
      | k + 1, hk => exact choose_ahead h2 k y (by simpa using hk) (fun j w hj hw => hz (j + 1) w (by omega) (by simpa using hw)) hy
/-- the eight names, or where nothing is in common -/
def agr (cn sn : List (List ByteArray)) : Nat → List ByteArray → List ByteArray × Option Nat
  | 0, out => (out, none)
  | n + 1, out =>
    if (out.length = 4 ∨ out.length = 5) ∧ out.getD (out.length - 2) e0 = cipherB then agr cn sn n (out ++ [impliedB])
    else match chooseL (cn.getD out.length []) (sn.getD out.length []) with
      | some x => agr cn sn n (out ++ [x])
      | none => (out, some out.length)
theorem agr_len (cn sn : List (List ByteArray)) : ∀ (n : Nat) (out : List ByteArray), (agr cn sn n out).2 = none → (agr cn sn n out).1.length = out.length + n
  | 0, out, _ => rfl
  | n + 1, out, h => by
    unfold agr at h ⊢
    split at h
    · rename_i hc
      rw [if_pos hc, agr_len cn sn n _ h]; simp; omega
    · rename_i hc
      rw [if_neg hc]
      cases hx : chooseL (cn.getD out.length []) (sn.getD out.length []) with
      | none => rw [hx] at h; simp at h
      | some x =>
        rw [hx] at h
        simp only at h ⊢
        rw [agr_len cn sn n _ h]; simp; omega
theorem agr_at (cn sn : List (List ByteArray)) : ∀ (n : Nat) (out : List ByteArray) (i : Nat), (agr cn sn n out).2 = some i → i < out.length + n ∧ out.length ≤ i
  | 0, out, i, h => by simp [agr] at h
  | n + 1, out, i, h => by
    unfold agr at h
    split at h
    · have := agr_at cn sn n _ i h; simp at this; omega
    · cases hx : chooseL (cn.getD out.length []) (sn.getD out.length []) with
      | none => rw [hx] at h; simp at h; omega
      | some x => rw [hx] at h; have := agr_at cn sn n _ i h; simp at this; omega
def whereL : List ByteArray := [⟨#[107, 101, 120]⟩, ⟨#[104, 111, 115, 116]⟩, ⟨#[99, 105, 112, 104, 101, 114, 32, 48]⟩, ⟨#[99, 105, 112, 104, 101, 114, 32, 49]⟩, ⟨#[109, 97, 99, 32, 48]⟩, ⟨#[109, 97, 99, 32, 49]⟩, ⟨#[122, 105, 112, 32, 48]⟩, ⟨#[122, 105, 112, 32, 49]⟩]
/-- is what one sent ahead to be passed over? -/
def skp (own other : Msg) : Bool := own.b.headD false && (decide ((own.n.getD 0 []).take 1 ≠ (other.n.getD 0 []).take 1) || decide ((own.n.getD 1 []).take 1 ≠ (other.n.getD 1 []).take 1))
def frst (l : List ByteArray) : ByteArray := match l with | [] => e0 | x :: _ => ⟨#[46]⟩ ++ x
theorem frst_eq (a b : List ByteArray) : (frst a = frst b) ↔ (a.take 1 = b.take 1) := by
  have h0 : ∀ x : ByteArray, (⟨#[46]⟩ : ByteArray) ++ x ≠ e0 := fun x h => by
    have := congrArg ByteArray.size h
    rw [ByteArray.size_append] at this
    have e1 : (⟨#[46]⟩ : ByteArray).size = 1 := rfl
    have e2 : e0.size = 0 := rfl
    omega
  cases a with
  | nil => cases b with
    | nil => simp [frst]
    | cons y b => simp only [frst, List.take_nil, List.take_succ_cons, List.take_zero]; constructor; (intro h; exact absurd h.symm (h0 y)); (intro h; cases h)
  | cons x a => cases b with
    | nil => simp only [frst, List.take_nil, List.take_succ_cons, List.take_zero]; constructor; (intro h; exact absurd h (h0 x)); (intro h; cases h)
    | cons y b =>
      simp only [frst, List.take_succ_cons, List.take_zero, List.cons.injEq, and_true]
      constructor
      · intro h
        have := congrArg (fun z : ByteArray => z.data.toList) h
        simp only [ByteArray.data_append, Array.toList_append] at this
        have h2 := List.append_cancel_left this
        exact ByteArray.ext (Array.toList_inj.1 h2)
      · intro h; rw [h]
end Go.Proofs.YtjfikbnfabdkoaaDoor.Of
