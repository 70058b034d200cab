/- Blobs of keys and signatures: the plain side. -/
import Derived.Test.YtjfikbnfabdkoaaGreatDoorRefIn
import Derived.Test.YtjfikbnfabdkoaaGreatDoorWirC
set_option linter.unusedVariables false
set_option linter.unusedSimpArgs false
namespace Go.Proofs.YtjfikbnfabdkoaaGreatDoor.Bl
open Go.RowKit Go.Proofs.YtjfikbnfabdkoaaGreatDoor.Wi Go.Proofs.YtjfikbnfabdkoaaGreatDoor.Ow Go.Proofs.YtjfikbnfabdkoaaGreatDoor.Be
/-- the word of the algorithm -/
@[irreducible] def algoB : ByteArray := ⟨#[115, 115, 104, 45, 101, 100, 50, 53, 53, 49, 57]⟩
theorem algo_eq : (⟨#[115, 115, 104, 45, 101, 100, 50, 53, 53, 49, 57]⟩ : ByteArray) = algoB := by unfold algoB; rfl
theorem algo_size : algoB.size = 11 := by unfold algoB; rfl
theorem algo_list : algoB.toList = [115, 115, 104, 45, 101, 100, 50, 53, 53, 49, 57] := by rw [ByteArray.toList_eq]; unfold algoB; rfl
def blobL (l : List UInt8) : List UInt8 := textL algoB.data.toList ++ textL l
theorem blobL_length (l : List UInt8) : (blobL l).length = 19 + l.length := by
  unfold blobL textL
  simp only [List.length_append, be_length, len_list, algo_size]
  omega
/-- what the two reads of a text give -/
def opW (s : ByteArray) : ByteArray := txtR s 0 s.size
def opX (s : ByteArray) : ByteArray := txtR (txtS s 0 s.size) (txtC s 0 s.size) s.size
def opS (s : ByteArray) : ByteArray := txtS (txtS s 0 s.size) (txtC s 0 s.size) s.size
def opE (s : ByteArray) : Nat := txtC (txtS s 0 s.size) (txtC s 0 s.size) s.size
def opC (s : ByteArray) (size wrong : Nat) : Nat :=
  if endC (opS s) (opE s) ≠ 0 then endC (opS s) (opE s) else if opW s = algoB ∧ (opX s).size = size then 0 else wrong
def opR (s : ByteArray) (size wrong : Nat) : ByteArray := if opC s size wrong = 0 then opX s else ⟨#[]⟩
theorem rawC_le20 (s : ByteArray) (c n : Nat) (h : c ≤ 20) : rawC s c n ≤ 20 := by
  unfold rawC
  split
  · split <;> omega
  · exact h
theorem txtC_le20 (s : ByteArray) (c : Nat) (m : Int) (h : c ≤ 20) : txtC s c m ≤ 20 := by
  unfold txtC
  split
  · omega
  · exact rawC_le20 _ _ _ (rawC_le20 _ _ _ h)
theorem endC_le20 (s : ByteArray) (c : Nat) (h : c ≤ 20) : endC s c ≤ 20 := by
  unfold endC
  split <;> omega
theorem opE_le (s : ByteArray) : endC (opS s) (opE s) ≤ 20 := endC_le20 _ _ (txtC_le20 _ _ _ (txtC_le20 _ _ _ (by decide)))
theorem opC_le (s : ByteArray) (size wrong : Nat) (h : wrong ≤ 20) : opC s size wrong ≤ 20 := by
  unfold opC
  split
  · exact opE_le s
  · split
    · omega
    · exact h
theorem opR_size (s : ByteArray) (size wrong : Nat) (hw : wrong ≠ 0) (h : opC s size wrong = 0) : (opR s size wrong).size = size ∧ opR s size wrong = opX s := by
  have e : opR s size wrong = opX s := by unfold opR; rw [if_pos h]
  refine ⟨?_, e⟩
  rw [e]
  unfold opC at h
  split at h
  · rename_i h2; exact absurd h h2
  · split at h
    · rename_i h3; exact h3.2
    · exact absurd h hw
theorem blob_back (s : ByteArray) (l : List UInt8) (hs : s.data.toList = blobL l) (hl : l.length ≤ 1000) (wrong : Nat) : opC s l.length wrong = 0 ∧ (opR s l.length wrong).data.toList = l := by
  have hz : s.size = 19 + l.length := by rw [← len_list, hs, blobL_length]
  obtain ⟨a1, a2, a3⟩ := txt_back s algoB.data.toList (textL l) s.size (by rw [hs]; rfl) (by rw [len_list, algo_size]; omega) (by rw [len_list, algo_size, hz]; omega)
  obtain ⟨b1, b2, b3⟩ := txt_back (txtS s 0 s.size) l [] s.size (by rw [a2, List.append_nil]) (by omega) (by rw [hz]; omega)
  have hE : opE s = 0 := by unfold opE; rw [a3]; exact b3
  have hS : (opS s).size = 0 := by unfold opS; rw [a3, ← len_list, b2]; rfl
  have hX : (opX s).data.toList = l := by unfold opX; rw [a3]; exact b1
  have hW : opW s = algoB := by unfold opW; apply ByteArray.ext; apply Array.toList_inj.1; exact a1
  have hC : opC s l.length wrong = 0 := by
    unfold opC
    have : endC (opS s) (opE s) = 0 := by unfold endC; rw [hE, hS]; rfl
    rw [this, if_neg (by simp), if_pos ⟨hW, by rw [← len_list, hX]⟩]
  exact ⟨hC, by unfold opR; rw [if_pos hC, hX]⟩
end Go.Proofs.YtjfikbnfabdkoaaGreatDoor.Bl
