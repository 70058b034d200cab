/- Parse: the plain part. -/
import Derived.Test.YtjfikbnfabdkoaaGreatDoorMsgByt
import Derived.Test.YtjfikbnfabdkoaaGreatDoorWirC
set_option linter.unusedVariables false
set_option linter.unusedSimpArgs false
namespace Go.Proofs.YtjfikbnfabdkoaaGreatDoor.Mg
open Go.RowKit Go.Proofs.YtjfikbnfabdkoaaGreatDoor.Wi Go.Proofs.YtjfikbnfabdkoaaGreatDoor.Ow Go.Proofs.YtjfikbnfabdkoaaGreatDoor.Be
/-- behind a list of names no text follows -/
def aftN : List UInt8 → Bool
  | [] => true
  | c :: l => (decide (c ≠ 110) || decide (cntS l = 0)) && aftN l
theorem rows_aftN : rowsL.all (fun r => aftN r.2.2) = true := by decide +kernel
theorem ltr_aftN (k : Int) : aftN (ltr k) = true := by
  unfold ltr
  cases h : rowOf k with
  | none => rfl
  | some r => exact List.all_eq_true.1 rows_aftN r (rowOf_mem h).1
theorem rawR_size2 (s : ByteArray) (c n : Nat) : (rawR s c n).size ≤ s.size := by
  unfold rawR
  split
  · rw [ByteArray.size_extract]; omega
  · exact Nat.zero_le _
theorem txtR_le (s : ByteArray) (c : Nat) (most : Int) (h : 0 ≤ most) : ((txtR s c most).size : Int) ≤ most := by
  unfold txtR
  split
  · show ((0 : Nat) : Int) ≤ most
    exact h
  · rename_i hb
    by_cases hc : rawC s c 4 = 0
    · unfold txtBig at hb
      have h2 : ¬ most < (txtN s c : Int) := fun e => hb (by simpa using ⟨hc, e⟩)
      have := rawR_size (rawS s c 4) (rawC s c 4) (txtN s c)
      omega
    · unfold rawR
      rw [if_neg (fun e => hc e.1)]
      show ((0 : Nat) : Int) ≤ most
      exact h
theorem join_two (x y : List UInt8) (r : List (List UInt8)) : Lib.join (x :: y :: r) [44] = x ++ (44 :: Lib.join (y :: r) [44]) := by
  rw [Lib.join_cons, Lib.join_cons]; simp [Lib.joinTail]
theorem join_spl : ∀ l : List UInt8, Lib.join (spl l) [44] = l
  | [] => rfl
  | b :: l => by
    obtain ⟨h, t, e⟩ := spl_ne l
    have ih := join_spl l
    by_cases hb : b = 44
    · subst hb
      rw [spl_comma, e, join_two, ← e, ih]; rfl
    · rw [spl_other hb e]
      rw [e] at ih
      cases t with
      | nil => rw [Lib.join_one] at ih ⊢; rw [ih]
      | cons x t => rw [join_two] at ih ⊢; rw [← ih]; rfl
theorem joinC_namL (r : ByteArray) : joinC (namL r) = r.data.toList := by
  unfold joinC
  rw [namL_spl, join_spl]
def FitN (l : List ByteArray) : Prop := l.length ≤ 100000 ∧ (joinC l).length ≤ 1000000 ∧ ∀ y ∈ l, y.size ≤ 1000000
theorem namR_fit (s : ByteArray) (c : Nat) : FitN (namR s c) := by
  unfold namR
  split
  · have h := txtR_le s c 4096 (by decide)
    have h1 := Lib.countB_le ⟨#[44]⟩ (by decide) _ (txtR s c 4096) (Nat.le_refl _)
    refine ⟨by rw [namL_length]; omega, by rw [joinC_namL, len_list]; omega, fun y hy => ?_⟩
    have h2 := splitB_size ⟨#[44]⟩ _ (txtR s c 4096) y (by unfold namL at hy; exact hy)
    omega
  · exact ⟨Nat.zero_le _, by simp [joinC, Lib.join], fun y hy => by simp at hy⟩
theorem txtS_size (s : ByteArray) (c : Nat) (m : Int) : (txtS s c m).size ≤ s.size := by
  unfold txtS; split
  · exact Nat.zero_le _
  · exact Nat.le_trans (rawS_size _ _ _) (rawS_size _ _ _)
theorem namS_size (s : ByteArray) (c : Nat) : (namS s c).size ≤ s.size := by
  unfold namS; split
  · exact Nat.zero_le _
  · exact txtS_size _ _ _
theorem cell_later {w w' : World} {g : Nat} (h : ∃ m, w.cell? ⟨g, 0, none⟩ = some (.int .i64 m)) (hb : Below w.heap.size w w') : ∃ m, w'.cell? ⟨g, 0, none⟩ = some (.int .i64 m) := by
  obtain ⟨m, hm⟩ := h
  exact ⟨m, (hb.cell (World.block_lt_of_cell? w _ hm)).trans hm⟩
theorem rdsMono {w : World} {B C : Nat} {A : Option Addr} {xs : List Value} (h : RdS w B A xs) (hC : C ≤ B) : RdS w C A xs := fun j x hx => by
  obtain ⟨g, cur, fz, hA, hB, hh, hc⟩ := h j x hx
  exact ⟨g, cur, fz, hA, Nat.le_trans hC hB, hh, hc⟩
theorem rdsKept {T0 : TypeId} {w w' : World} {B : Nat} {A : Option Addr} {xs : List Value} (h : RdS w B A xs) (hk : KeptT T0 w w') (h1 : 9 ≠ T0) : RdS w' B A xs := fun j x hx => by
  obtain ⟨g, cur, fz, hA, hB, hg, hc⟩ := h j x hx
  exact ⟨g, cur, fz, hA, hB, hk.row _ _ _ _ hg h1, hc⟩
theorem blkKept {T0 T b : Nat} {w w' : World} {cs : Array Value} (h : Rg.Blk w b T cs) (hk : KeptT T0 w w') (h1 : T ≠ T0) : Rg.Blk w' b T cs := hk.row _ _ _ _ h h1
/-- an error's value by its number -/
def eA (a : Nat → Addr) (k : Nat) : Value := .iface 162 (.pointer (some (a k)))
theorem evV_eA (a : Nat → Addr) (c : Nat) : evV (eA a) c = Ei.evA a c := rfl
theorem errsA {w : World} {a : Nat → Addr} (h : ErrsM w a) : Errs w (eA a) :=
  ⟨fun k _ => ⟨a k, rfl⟩, h.cell 3 (by decide), h.cell 2 (by decide), h.cell 1 (by decide)⟩
end Go.Proofs.YtjfikbnfabdkoaaGreatDoor.Mg
