/- Line: what the laws want: commands that were read, by value; Cut; Code. -/
import Derived.Test.YtonjgfbefhefjaaDoorLnRp
import Derived.Test.YtonjgfbefhefjaaDoorLnS
import Derived.Test.YtonjgfbefhefjaaDoorLnL
import Derived.Test.YtonjgfbefhefjaaDoorLnY
set_option linter.unusedVariables false
set_option linter.unusedSimpArgs false
namespace Go.Proofs.YtonjgfbefhefjaaDoor.Ln
open Go Go.RowKit Go.Proofs.YtonjgfbefhefjaaDoor.Ow
theorem Cut_any (w : World) (s : ByteArray) (n : Nat) (hn : n ≤ 1000000) : Calls Tryd.prog 8 #[.string s, .int .i64 n] w fun e w' => e = .returned (.string (s.extract 0 n)) ∧ w = w' := by
  by_cases h : n < s.size
  · go_enter Tryd.func8, Tryd.ntmps8
    go_wp2
    go_ret
    exact ⟨by simp, rfl⟩
  · have e : s.extract 0 n = s := by
      apply ByteArray.ext
      simp
      omega
    have h' : ¬ (n : Int) < s.size := by omega
    go_enter Tryd.func8, Tryd.ntmps8
    go_wp2
    go_ret
    exact ⟨rfl, rfl⟩
theorem tab_word : ∀ r ∈ tab, r.1.length ≤ 20 := by decide +kernel
theorem chk_small {c : Cm} (h : chk c = 0) : c.names.length ≤ 1000 ∧ c.nums.length ≤ 10 ∧ c.text.length ≤ 9000 ∧ c.word.length ≤ 20 ∧ (∀ x ∈ c.names, x.length ≤ 64) ∧ ∀ k ∈ c.nums, 0 ≤ k ∧ k ≤ 999999999 := by
  unfold chk at h
  cases hs : shp c.word with
  | none => rw [hs] at h; simp at h
  | some sh =>
    rw [hs] at h
    simp only at h
    by_cases ho : ok sh c
    · obtain ⟨t1, t2, t3, t4⟩ := cnt_tab _ (shp_mem hs)
      have tw := tab_word _ (shp_mem hs)
      simp only at t1 t2 t3 t4 tw
      obtain ⟨h1, h2, h3, h4, h5, h6⟩ := ho
      exact ⟨by omega, by omega, by omega, tw, fun x hx => (h5 x hx).2.1, h6⟩
    · rw [if_neg ho] at h; cases h
theorem rd_own {w : World} {B : Nat} {E : TypeId} {v : Value} {xs : List Value} (h : Owns w B E v xs) : ∃ A k, v = .slice A xs.length k ∧ xs.length ≤ k ∧ Rd w A xs := by
  by_cases hn : xs = []
  · subst hn
    obtain ⟨hl, h⟩ := h
    rcases h with ⟨hv, _⟩ | ⟨g, cap, cur, hv, _⟩
    · exact ⟨none, 0, hv, Nat.le_refl _, Rd.nil _ _⟩
    · exact ⟨_, cap, hv, by simp, Rd.nil _ _⟩
  · obtain ⟨g, k, hv, h1, h2, h3, _⟩ := owns_at h hn
    have hcap : xs.length ≤ k := by
      have h0 : w.ownsRow B E 1 v xs.length xs := h
      rcases h0.2 with ⟨hv', _⟩ | ⟨g', cap, cur, hv', _, _, hc', _⟩
      · rw [hv'] at hv; cases hv
      · rw [hv'] at hv; injection hv with _ _ e3; rw [← e3]; exact hc'
    exact ⟨_, k, hv, hcap, fun j x hx => ⟨g, 0, rfl, h2, by rw [Nat.zero_add]; exact (h3 j x hx).1⟩⟩
theorem cval_of {W : World} {B : Nat} {c : Cm} {vN vK : Value} (h : ValAt W B c vN vK) (hc : chk c = 0) : ∃ A1 k1 A2 k2, vN = .slice A1 c.names.length k1 ∧ vK = .slice A2 c.nums.length k2 ∧ CVal W c A1 k1 A2 k2 := by
  obtain ⟨A1, k1, h1, l1, r1⟩ := rd_own h.1
  obtain ⟨A2, k2, h2, l2, r2⟩ := rd_own h.2
  rw [List.length_map] at h1 l1 h2 l2
  obtain ⟨s1, s2, s3, s4, s5, s6⟩ := chk_small hc
  exact ⟨A1, k1, A2, k2, h1, h2, ⟨r1, r2, l1, l2, by omega, by omega, fun x hx => by have := s5 x hx; omega, by omega, by omega, fun k hk => by have := s6 k hk; omega⟩⟩
def c0 : Cm := ⟨[], [], [], []⟩
theorem cval_nil (W : World) : CVal W c0 none 0 none 0 :=
  ⟨Rd.nil _ _, Rd.nil _ _, Nat.le_refl _, Nat.le_refl _, by decide, by decide, (fun x hx => absurd hx (List.not_mem_nil)), by decide, by decide, (fun x hx => absurd hx (List.not_mem_nil))⟩
/-- what both readers say, in one -/
def rd (s : List UInt8) : Cm × Nat := match parse s with
  | .error f => (c0, f)
  | .ok c => (c, 0)
/-- a command by value that reads as c, and errors by number -/
theorem PPost.both {a : Nat → Addr} {s : List UInt8} {w w' : World} {e : Ending} (h : PPost a s w e w') :
    ∃ A1 k1 A2 k2, e = .returned (.tuple #[.agg #[.string (strB (rd s).1.word), .slice A1 (rd s).1.names.length k1, .slice A2 (rd s).1.nums.length k2, .string (strB (rd s).1.text)], Ei.evA a (rd s).2]) ∧ CVal w' (rd s).1 A1 k1 A2 k2 ∧ Below w.heap.size w w' := by
  rcases h with ⟨f, hp, he, _, hb⟩ | ⟨c, vN, vK, hp, he, hv, hb⟩
  · refine ⟨none, 0, none, 0, ?_, ?_, hb⟩
    · unfold rd; rw [hp]; exact he
    · unfold rd; rw [hp]; exact cval_nil _
  · obtain ⟨A1, k1, A2, k2, e1, e2, hcv⟩ := cval_of hv (fwd hp).1
    subst e1 e2
    refine ⟨A1, k1, A2, k2, ?_, ?_, hb⟩
    · unfold rd; rw [hp]; exact he
    · unfold rd; rw [hp]; exact hcv
theorem RPost.both {s : List UInt8} {w w' : World} {e : Ending} (h : RPost s w e w') :
    ∃ A1 k1 A2 k2, e = .returned (.tuple #[.agg #[.string (strB (rd s).1.word), .slice A1 (rd s).1.names.length k1, .slice A2 (rd s).1.nums.length k2, .string (strB (rd s).1.text)], .int .i64 (rd s).2]) ∧ CVal w' (rd s).1 A1 k1 A2 k2 ∧ Below w.heap.size w w' := by
  rcases h with ⟨f, hp, he, _, hb⟩ | ⟨c, vN, vK, hp, he, hv, hb⟩
  · refine ⟨none, 0, none, 0, ?_, ?_, hb⟩
    · unfold rd; rw [hp]; exact he
    · unfold rd; rw [hp]; exact cval_nil _
  · obtain ⟨A1, k1, A2, k2, e1, e2, hcv⟩ := cval_of hv (fwd hp).1
    subst e1 e2
    refine ⟨A1, k1, A2, k2, ?_, ?_, hb⟩
    · unfold rd; rw [hp]; exact he
    · unfold rd; rw [hp]; exact hcv
theorem rd_le (s : List UInt8) : (rd s).2 = 0 ∨ (1 ≤ (rd s).2 ∧ (rd s).2 ≤ 20) := by
  unfold rd
  cases h : parse s with
  | ok c => exact .inl rfl
  | error f =>
    refine .inr ?_
    show 1 ≤ f ∧ f ≤ 20
    unfold parse at h
    split at h
    · cases h; decide
    · split at h
      · cases h; decide
      · split at h
        · cases h; decide
        · split at h
          · cases h; decide
          · split at h <;> cases h; decide
theorem parse_pos {s : List UInt8} {f : Nat} (h : parse s = .error f) : 1 ≤ f := by
  unfold parse at h
  split at h
  · cases h; decide
  · split at h
    · cases h; decide
    · split at h
      · cases h; decide
      · split at h
        · cases h; decide
        · split at h <;> cases h; decide
/-- a good line -/
theorem rd_ok {s : List UInt8} (h : (rd s).2 = 0) : chk (rd s).1 = 0 ∧ line (rd s).1 = s ∧ (rd s).1.word ≠ [] := by
  unfold rd at h ⊢
  cases hp : parse s with
  | ok c => exact fwd hp
  | error f =>
    have := rd_le s
    unfold rd at this
    rw [hp] at h this
    have h1 : f = 0 := h
    have h2 : f = 0 ∨ (1 ≤ f ∧ f ≤ 20) := this
    exfalso
    subst h1
    have := parse_pos hp
    omega
theorem rd_bad {s : List UInt8} (h : (rd s).2 ≠ 0) : (rd s).1 = c0 := by
  unfold rd at h ⊢
  cases hp : parse s with
  | ok c => rw [hp] at h; exact absurd rfl h
  | error f => rfl
theorem rd_line {c : Cm} (h : chk c = 0) : rd (line c) = (c, 0) := by unfold rd; rw [(back h).1]
end Go.Proofs.YtonjgfbefhefjaaDoor.Ln
