/- How long a message's bytes are. -/
import Derived.Test.YtjfikbnfabdkoaaDoorMsgSpec2
set_option linter.unusedVariables false
set_option linter.unusedSimpArgs false
namespace Go.Proofs.YtjfikbnfabdkoaaDoor.Mg
open Go.Proofs.YtjfikbnfabdkoaaDoor.Wi Go.Proofs.YtjfikbnfabdkoaaDoor.Be
theorem be_len (n x : Nat) : (be n x).length = n := be_length n x
theorem textL_len (l : List UInt8) : (textL l).length = l.length + 4 := by unfold textL; rw [List.length_append, be_len]; omega
theorem enc_len (B : Nat) : ∀ (l : List UInt8) (u : List Nat) (s : List ByteArray) (n : List (List ByteArray)) (b : List Bool), (∀ x ∈ s, x.size ≤ B) → (∀ x ∈ n, (joinC x).length ≤ B) → (joinC []).length ≤ B → (enc l u s n b).length ≤ l.length * (B + 4)
  | [], _, _, _, _, _, _, _ => by simp [enc]
  | c :: l, u, s, n, b, hs, hn, h0 => by
    have hhd : (hd s).data.toList.length ≤ B := by
      rw [len_list]
      cases s with
      | nil => exact Nat.zero_le _
      | cons x s => exact hs x (List.mem_cons_self ..)
    have hst : ∀ x ∈ s.tail, x.size ≤ B := fun x hx => hs x (List.mem_of_mem_tail hx)
    have hnt : ∀ x ∈ n.tail, (joinC x).length ≤ B := fun x hx => hn x (List.mem_of_mem_tail hx)
    have hnh : (joinC (n.headD [])).length ≤ B := by
      cases n with
      | nil => exact h0
      | cons x n => exact hn x (List.mem_cons_self ..)
    have e : (c :: l).length * (B + 4) = l.length * (B + 4) + (B + 4) := by rw [List.length_cons, Nat.add_mul, Nat.one_mul]
    rw [e]
    unfold enc
    split
    · rw [List.length_append, be_len]; have := enc_len B l u.tail s n b hs hn h0; omega
    · split
      · rw [List.length_append]; have := enc_len B l u s n b.tail hs hn h0; simp only [List.length_cons, List.length_nil]; omega
      · split
        · rw [List.length_append, textL_len]; have := enc_len B l u s.tail n b hst hn h0; omega
        · split
          · rw [List.length_append, textL_len]; have := enc_len B l u s n.tail b hs hnt h0; omega
          · rw [List.length_append]; have := enc_len B l u s.tail n b hst hn h0; omega
theorem ltr_le (k : Int) : (ltr k).length ≤ 13 := by
  have h : rowsL.all (fun r => decide (r.2.2.length ≤ 13)) = true := by decide +kernel
  unfold ltr
  cases hr : rowOf k with
  | none => exact Nat.zero_le _
  | some r => simpa using List.all_eq_true.1 h r (rowOf_mem hr).1
theorem bytes_len (m : Msg) (B : Nat) (hs : ∀ x ∈ m.s, x.size ≤ B) (hn : ∀ x ∈ m.n, (joinC x).length ≤ B) (h0 : (joinC []).length ≤ B) : (bytesL m).length ≤ 1 + 13 * (B + 4) := by
  unfold bytesL
  split
  · exact Nat.zero_le _
  · rw [List.length_cons]
    have h1 := enc_len B (ltr m.kind) m.u m.s m.n m.b hs hn h0
    have h2 := Nat.mul_le_mul_right (B + 4) (ltr_le m.kind)
    omega
theorem bytes_ok {m : Msg} (h : checkC m = 0) : bytesL m = UInt8.ofNat m.kind.toNat :: enc (ltr m.kind) m.u m.s m.n m.b := by unfold bytesL; rw [if_neg (fun e => e h)]
theorem bytes_no {m : Msg} (h : checkC m ≠ 0) : bytesL m = [] := by unfold bytesL; rw [if_pos h]
theorem check_le (m : Msg) : checkC m ≤ 20 := by
  unfold checkC
  repeat' split
  all_goals decide
end Go.Proofs.YtjfikbnfabdkoaaDoor.Mg
