/- wire.In: big numbers. -/
import Derived.Test.YtjfikbnfabdkoaaDoorWireName
set_option linter.unusedVariables false
set_option linter.unusedSimpArgs false
namespace Go.Proofs.YtjfikbnfabdkoaaDoor.Wi
open Go.RowKit Go.Proofs.YtjfikbnfabdkoaaDoor.Ow
def bmost (most : Int) : Int := if 4096 < most then 4096 else most
def bq (most : Int) : Int := max (bmost most) 0 + 1
/-- a text without the zero ahead -/
def tp (r : ByteArray) : ByteArray := ⟨(Lib.trimPrefix r.data.toList [0]).toArray⟩
/-- may a text not be a number's? -/
def badB (l t : List UInt8) : Bool := decide (128 ≤ (l.headD 0).toNat) || decide (t = []) || (decide (t ≠ l) && decide ((t.headD 0).toNat < 128))
def bigK (s : ByteArray) (c : Nat) (most : Int) : Nat :=
  if (txtR s c (bq most)).size = 0 then 0
  else if badB (txtR s c (bq most)).data.toList (tp (txtR s c (bq most))).data.toList then 3
  else if bmost most < ((tp (txtR s c (bq most))).size : Int) then 4 else 1
def bigR (s : ByteArray) (c : Nat) (most : Int) : ByteArray := if bigK s c most = 1 then tp (txtR s c (bq most)) else ⟨#[]⟩
def bigS (s : ByteArray) (c : Nat) (most : Int) : ByteArray := if bigK s c most ≤ 1 then txtS s c (bq most) else ⟨#[]⟩
def bigC (s : ByteArray) (c : Nat) (most : Int) : Nat := if bigK s c most ≤ 1 then txtC s c (bq most) else bigK s c most
theorem rawR_pos {s : ByteArray} {c n : Nat} (h : (rawR s c n).size ≠ 0) : rawC s c n = 0 := by
  unfold rawR at h
  split at h
  · rename_i hc; unfold rawC; rw [if_pos hc.1, if_pos hc.2]
  · exact absurd rfl h
theorem txtR_pos {s : ByteArray} {c : Nat} {most : Int} (h : (txtR s c most).size ≠ 0) : txtC s c most = 0 := by
  unfold txtR at h
  unfold txtC
  split at h
  · exact absurd rfl h
  · rename_i hb; rw [if_neg hb]; exact rawR_pos h
theorem txtR_size (s : ByteArray) (c : Nat) (most : Int) : (txtR s c most).size ≤ s.size := by
  unfold txtR
  split
  · exact Nat.zero_le _
  · unfold rawR
    split
    · rw [ByteArray.size_extract]
      have := rawS_size s c 4
      omega
    · exact Nat.zero_le _
theorem tp_zero {r : ByteArray} (h : 0 < r.size) (h0 : r[0] = 0) : (tp r).data.toList = r.data.toList.drop 1 := by
  obtain ⟨⟨l⟩⟩ := r
  cases l with
  | nil => exact absurd h (Nat.lt_irrefl 0)
  | cons x l =>
    have : x = 0 := h0
    subst this
    rfl
theorem tp_same {r : ByteArray} (h : 0 < r.size) (h0 : r[0] ≠ 0) : tp r = r := by
  obtain ⟨⟨l⟩⟩ := r
  cases l with
  | nil => exact absurd h (Nat.lt_irrefl 0)
  | cons x l =>
    have hx : x ≠ 0 := h0
    unfold tp Lib.trimPrefix Lib.hasPrefix
    simp [hx, Ne.symm hx]
theorem head_get' (s : ByteArray) (h : 0 < s.size) : s.data.toList.headD 0 = s[0] := by
  obtain ⟨⟨l⟩⟩ := s
  cases l with
  | nil => exact absurd h (Nat.lt_irrefl 0)
  | cons x l => rfl
end Go.Proofs.YtjfikbnfabdkoaaDoor.Wi
