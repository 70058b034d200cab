/- strings.Join with the empty separator, at whatever slice of strings. -/
import Derived.Test.YtfaeigbfnjkojaaGreatDoorShelf
import Derived.Test.YtfaeigbfnjkojaaGreatDoorRows
set_option linter.unusedVariables false
set_option linter.unusedSimpArgs false
namespace Go.Proofs.YtfaeigbfnjkojaaGreatDoor.Jo
open Go.RowKit
/-- the bytes of all parts; the name is not opened by unification -/
@[irreducible] def joined (xs : List ByteArray) : ByteArray := ⟨(xs.flatMap fun x => x.data.toList).toArray⟩
theorem joined_list (xs : List ByteArray) : (joined xs).data.toList = xs.flatMap fun x => x.data.toList := by unfold joined; rfl
/-- a slice value that holds the strings xs -/
def Parts (w : World) (v : Value) (xs : List ByteArray) : Prop :=
  (xs = [] ∧ ∃ a c, v = .slice a 0 c) ∨
  (∃ b o c, v = .slice (some ⟨b, o, none⟩) xs.length c ∧ (∀ (j : Nat) x, xs[j]? = some x → w.cell? ⟨b, o + j, none⟩ = some (.string x)) ∧ b < w.heap.size ∧ xs.length ≤ c)
theorem Parts.below {w w' : World} {v : Value} {xs : List ByteArray} (h : Parts w v xs) (hb : Below w.heap.size w w') : Parts w' v xs := by
  rcases h with h | ⟨b, o, c, hv, hc, hl, hx⟩
  · exact .inl h
  · exact .inr ⟨b, o, c, hv, fun j x hx => (hb.cell (p := ⟨b, o + j, none⟩) hl).trans (hc j x hx), Nat.lt_of_lt_of_le hl hb.size, hx⟩
theorem joinTail_nil (l : List (List UInt8)) : Lib.joinTail [] l = l.flatten := by
  unfold Lib.joinTail
  rw [show l.map (([] : List UInt8) ++ ·) = l from List.map_id' l]
theorem join_nil (l : List (List UInt8)) : Lib.join l [] = l.flatten := by
  cases l with
  | nil => rfl
  | cons x l => rw [Lib.join_cons, joinTail_nil]; rfl
theorem join_any (w : World) (v : Value) (xs : List ByteArray) (h : Parts w v xs) (hs : (joined xs).size ≤ 140737488355328) (hN : xs.length ≤ 140737488355328) :
    Calls Tryz.prog 69 #[v, .string ⟨#[]⟩] w fun e w' => e = .returned (.string (joined xs)) ∧ Below w.heap.size w w' := by
  rcases h with ⟨rfl, a, c, rfl⟩ | ⟨b, o, c, rfl, hc, hl, hx⟩
  · refine (Tryz.strings_Join_none a c ⟨#[]⟩ w).mono ?_
    rintro e w' ⟨rfl, rfl⟩
    exact ⟨by unfold joined; rfl, Below.refl _ _⟩
  · have e : Lib.join (xs.map (·.data.toList)) [] = xs.flatMap fun x => x.data.toList := by rw [join_nil, List.flatMap_def]
    have hs' : (xs.flatMap fun x => x.data.toList).length ≤ 140737488355328 := by
      rw [← joined_list, Array.length_toList]; exact hs
    refine (Tryz.strings_Join b o c xs ⟨#[]⟩ w hc hl hN hx (by show (Lib.join _ []).length ≤ _; rw [e]; exact hs')).mono ?_
    rintro e' w' ⟨rfl, hb⟩
    refine ⟨?_, hb⟩
    show Ending.returned (.string ⟨(Lib.join _ []).toArray⟩) = _
    rw [e]; unfold joined; rfl
/-- n zero bytes; the name is not opened by unification -/
@[irreducible] def zeroStr (n : Nat) : ByteArray := ⟨(List.replicate n (0 : UInt8)).toArray⟩
theorem zeroStr_list (n : Nat) : (zeroStr n).data.toList = List.replicate n 0 := by unfold zeroStr; rfl
theorem zeroStr_size (n : Nat) : (zeroStr n).size = n := by unfold zeroStr; show (List.replicate n (0 : UInt8)).toArray.size = n; simp
theorem repeat_zero (w : World) (c : Nat) (hc : c ≤ 1000000) : Calls Tryz.prog 70 #[.string ⟨#[0]⟩, .int .i64 c] w fun e w' => e = .returned (.string (zeroStr c)) ∧ Below w.heap.size w w' := by
  refine (Tryz.strings_Repeat ⟨#[0]⟩ c w (by omega) (by show 1 * c ≤ _; omega)).mono ?_
  rintro e w' ⟨rfl, hb⟩
  refine ⟨?_, hb⟩
  have e : Lib.repeatL (⟨#[0]⟩ : ByteArray).data.toList c = List.replicate c 0 := by
    show Lib.repeatL [0] c = _
    induction c with
    | zero => rfl
    | succ c ih => rw [List.replicate_succ, ← ih (by omega)]; rfl
  rw [e]; unfold zeroStr; rfl
end Go.Proofs.YtfaeigbfnjkojaaGreatDoor.Jo
