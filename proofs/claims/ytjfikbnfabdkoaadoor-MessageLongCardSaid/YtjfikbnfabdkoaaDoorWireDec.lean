/- What was written reads back: plain laws. -/
import Derived.Test.YtjfikbnfabdkoaaDoorWireNames
set_option linter.unusedVariables false
set_option linter.unusedSimpArgs false
namespace Go.Proofs.YtjfikbnfabdkoaaDoor.Wi
open Go.RowKit Go.Proofs.YtjfikbnfabdkoaaDoor.Ow Go.Proofs.YtjfikbnfabdkoaaDoor.Be
theorem ext_list (a b : ByteArray) (h : a.data.toList = b.data.toList) : a = b := by apply ByteArray.ext; exact Array.toList_inj.1 h
theorem raw_back (s : ByteArray) (a b : List UInt8) (n : Nat) (hs : s.data.toList = a ++ b) (hn : a.length = n) : (rawR s 0 n).data.toList = a ∧ (rawS s 0 n).data.toList = b ∧ rawC s 0 n = 0 := by
  have hz : s.size = a.length + b.length := by rw [← len_list, hs, List.length_append]
  have hle : n ≤ s.size := by omega
  refine ⟨?_, ?_, ?_⟩
  · unfold rawR
    rw [if_pos ⟨rfl, hle⟩]
    have : (s.extract 0 n).data.toList = s.data.toList.take n := by simp only [ByteArray.data_extract, Array.toList_extract, List.extract_eq_take_drop, List.drop_zero, Nat.sub_zero]
    rw [this, hs, ← hn, List.take_left]
  · unfold rawS
    rw [if_pos rfl, if_pos hle]
    have : (s.extract n s.size).data.toList = s.data.toList.drop n := by
      simp only [ByteArray.data_extract, Array.toList_extract, List.extract_eq_take_drop]
      rw [List.take_of_length_le (by rw [List.length_drop, len_list]; omega)]
    rw [this, hs, ← hn, List.drop_left]
  · unfold rawC
    rw [if_pos rfl, if_pos hle]
theorem numV_be : ∀ (k N : Nat), numV (be k N) = N % 256 ^ k
  | 0, N => by simp [numV, be, Nat.mod_one]
  | k + 1, N => by
    have h : ∀ (l : List UInt8) (a : Nat), l.foldl (fun a (x : UInt8) => a * 256 + x.toNat) a = a * 256 ^ l.length + numV l := by
      intro l
      induction l with
      | nil => intro a; simp [numV]
      | cons y l ih =>
        intro a
        have h0 := ih (0 * 256 + y.toNat)
        have h1 := ih (a * 256 + y.toNat)
        unfold numV at *
        rw [List.foldl_cons, List.foldl_cons, h1, h0, List.length_cons, Nat.pow_succ]
        simp only [Nat.add_mul, Nat.mul_assoc, Nat.zero_mul, Nat.zero_add, Nat.mul_comm 256]
        omega
    have ih := numV_be k N
    show List.foldl _ 0 (UInt8.ofNat (N / 256 ^ k) :: be k N) = _
    rw [List.foldl_cons, h, be_length, ih, UInt8.toNat_ofNat']
    have e : N % (256 ^ k * 256) = N % 256 ^ k + 256 ^ k * (N / 256 ^ k % 256) := Nat.mod_mul
    rw [show (256 : Nat) ^ (k + 1) = 256 ^ k * 256 from rfl, e, Nat.mul_comm (256 ^ k), Nat.zero_mul, Nat.zero_add]
    exact Nat.add_comm _ _
theorem txt_back (s : ByteArray) (a b : List UInt8) (most : Int) (hs : s.data.toList = textL a ++ b) (ha : a.length < 4294967296) (hm : (a.length : Int) ≤ most) :
    (txtR s 0 most).data.toList = a ∧ (txtS s 0 most).data.toList = b ∧ txtC s 0 most = 0 := by
  unfold textL at hs
  rw [List.append_assoc] at hs
  obtain ⟨h1, h2, h3⟩ := raw_back s (be 4 a.length) (a ++ b) 4 hs (be_length _ _)
  have hn : txtN s 0 = a.length := by
    unfold txtN; rw [h1, numV_be]; exact Nat.mod_eq_of_lt ha
  have hb : txtBig s 0 most = false := by
    unfold txtBig; rw [hn]; simp; intro _; omega
  obtain ⟨g1, g2, g3⟩ := raw_back (rawS s 0 4) a b a.length h2 rfl
  unfold txtR txtS txtC
  rw [hb, h3, hn]
  exact ⟨g1, g2, g3⟩
end Go.Proofs.YtjfikbnfabdkoaaDoor.Wi
