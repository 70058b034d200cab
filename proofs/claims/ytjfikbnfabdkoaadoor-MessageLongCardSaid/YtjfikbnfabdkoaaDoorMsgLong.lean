/- The law MessageLong: the messages, and their checks. -/
import Derived.Test.YtjfikbnfabdkoaaDoorMsgAwk
import Derived.Test.YtjfikbnfabdkoaaDoorMsgA
import Derived.Test.YtjfikbnfabdkoaaDoorMsgRefB
import Derived.OwnWalk
set_option linter.unusedVariables false
set_option linter.unusedSimpArgs false
namespace Go.Proofs.YtjfikbnfabdkoaaDoor.Mg
open Go.RowKit Go.Proofs.YtjfikbnfabdkoaaDoor.Wi Go.Proofs.YtjfikbnfabdkoaaDoor.Ow Go.Proofs.YtjfikbnfabdkoaaDoor.Be
theorem and3 (n : Int) : ∃ r : Nat, r < 4 ∧ bits .and .i64 n 3 = (r : Int) := by
  have h127 : (BitVec.ofInt 64 3).toNat = 2 ^ 2 - 1 := by decide
  have key : (BitVec.ofInt 64 n &&& BitVec.ofInt 64 3).toNat = (n % ((2 ^ 64 : Nat) : Int)).toNat % 2 ^ 2 := by
    rw [BitVec.toNat_and, BitVec.toNat_ofInt, h127, Nat.and_two_pow_sub_one_eq_mod]
  refine ⟨(n % 4).toNat, by omega, ?_⟩
  show IntKind.i64.wrap ((BitVec.ofInt 64 n &&& BitVec.ofInt 64 3).toNat : Nat) = _
  rw [key, IntKind.wrap_i64]
  omega
theorem and15 (n : Int) : ∃ r : Nat, r < 16 ∧ bits .and .i64 n 15 = (r : Int) := by
  have h127 : (BitVec.ofInt 64 15).toNat = 2 ^ 4 - 1 := by decide
  have key : (BitVec.ofInt 64 n &&& BitVec.ofInt 64 15).toNat = (n % ((2 ^ 64 : Nat) : Int)).toNat % 2 ^ 4 := by
    rw [BitVec.toNat_and, BitVec.toNat_ofInt, h127, Nat.and_two_pow_sub_one_eq_mod]
  refine ⟨(n % 16).toNat, by omega, ?_⟩
  show IntKind.i64.wrap ((BitVec.ofInt 64 n &&& BitVec.ofInt 64 15).toNat : Nat) = _
  rw [key, IntKind.wrap_i64]
  omega
def zs (N : Nat) : ByteArray := ⟨(List.replicate N (0 : UInt8)).toArray⟩
theorem zs_size (N : Nat) : (zs N).size = N := by unfold zs; show (List.replicate N (0 : UInt8)).toArray.size = N; simp
theorem made_bv (N : Nat) : (madeCells (Value.int .u8 0).cells (N * 1)).toList = bv (List.replicate N 0) := by
  have e : (Value.int .u8 0).cells = #[.int .u8 0] := rfl
  rw [e, Nat.mul_one, toList_madeCells_one]
  simp [bv, Lib.byteCells]
def lm0 (S : ByteArray) : Msg := ⟨2, [], [S], [], []⟩
theorem kl0 : isK 2 = true ∧ ltr 2 = [115] := by decide +kernel
theorem lm0_check (S : ByteArray) : checkC (lm0 S) = if 32768 < S.size then 4 else 0 := by
  unfold checkC lm0
  simp only
  rw [kl0.1, kl0.2]
  by_cases h : 32768 < S.size <;> simp [counted, cntS, chk, Mg.hd, h, show (⟨#[120]⟩ : ByteArray).size = 1 from rfl]
theorem lm0_fit (S : ByteArray) (hS : S.size ≤ 40000) : Fit (lm0 S) ∧ (∀ x ∈ (lm0 S).s, x.size ≤ 40000) := by
  refine ⟨⟨fun x h => ?_, fun x h => ?_, fun x h => ?_⟩, fun x h => ?_⟩ <;> simp [lm0] at h
  · subst h; omega
  · subst h; exact hS
theorem lm0_len (S : ByteArray) (hS : S.size ≤ 40000) : (bytesL (lm0 S)).length ≤ 1000000 := by
  have := bytes_len (lm0 S) 40000 (lm0_fit S hS).2 (fun l h => by simp [lm0] at h) (by decide)
  omega
def lm1 (S : ByteArray) : Msg := ⟨94, [1], [S], [], []⟩
theorem kl1 : isK 94 = true ∧ ltr 94 = [117, 115] := by decide +kernel
theorem lm1_check (S : ByteArray) : checkC (lm1 S) = if 32768 < S.size then 4 else 0 := by
  unfold checkC lm1
  simp only
  rw [kl1.1, kl1.2]
  by_cases h : 32768 < S.size <;> simp [counted, cntS, chk, Mg.hd, h, show (⟨#[120]⟩ : ByteArray).size = 1 from rfl]
theorem lm1_fit (S : ByteArray) (hS : S.size ≤ 40000) : Fit (lm1 S) ∧ (∀ x ∈ (lm1 S).s, x.size ≤ 40000) := by
  refine ⟨⟨fun x h => ?_, fun x h => ?_, fun x h => ?_⟩, fun x h => ?_⟩ <;> simp [lm1] at h
  · subst h; omega
  · subst h; omega
  · subst h; exact hS
theorem lm1_len (S : ByteArray) (hS : S.size ≤ 40000) : (bytesL (lm1 S)).length ≤ 1000000 := by
  have := bytes_len (lm1 S) 40000 (lm1_fit S hS).2 (fun l h => by simp [lm1] at h) (by decide)
  omega
def lm2 (S : ByteArray) : Msg := ⟨81, [], [S], [], []⟩
theorem kl2 : isK 81 = true ∧ ltr 81 = [114] := by decide +kernel
theorem lm2_check (S : ByteArray) : checkC (lm2 S) = if 32768 < S.size then 4 else 0 := by
  unfold checkC lm2
  simp only
  rw [kl2.1, kl2.2]
  by_cases h : 32768 < S.size <;> simp [counted, cntS, chk, Mg.hd, h, show (⟨#[120]⟩ : ByteArray).size = 1 from rfl]
theorem lm2_fit (S : ByteArray) (hS : S.size ≤ 40000) : Fit (lm2 S) ∧ (∀ x ∈ (lm2 S).s, x.size ≤ 40000) := by
  refine ⟨⟨fun x h => ?_, fun x h => ?_, fun x h => ?_⟩, fun x h => ?_⟩ <;> simp [lm2] at h
  · subst h; omega
  · subst h; exact hS
theorem lm2_len (S : ByteArray) (hS : S.size ≤ 40000) : (bytesL (lm2 S)).length ≤ 1000000 := by
  have := bytes_len (lm2 S) 40000 (lm2_fit S hS).2 (fun l h => by simp [lm2] at h) (by decide)
  omega
def lm3 (S : ByteArray) : Msg := ⟨98, [1], [⟨#[120]⟩, S], [], [true]⟩
theorem kl3 : isK 98 = true ∧ ltr 98 = [117, 115, 98, 114] := by decide +kernel
theorem lm3_check (S : ByteArray) : checkC (lm3 S) = if 32768 < S.size then 4 else 0 := by
  unfold checkC lm3
  simp only
  rw [kl3.1, kl3.2]
  by_cases h : 32768 < S.size <;> simp [counted, cntS, chk, Mg.hd, h, show (⟨#[120]⟩ : ByteArray).size = 1 from rfl]
theorem lm3_fit (S : ByteArray) (hS : S.size ≤ 40000) : Fit (lm3 S) ∧ (∀ x ∈ (lm3 S).s, x.size ≤ 40000) := by
  refine ⟨⟨fun x h => ?_, fun x h => ?_, fun x h => ?_⟩, fun x h => ?_⟩ <;> simp [lm3] at h
  · subst h; omega
  · rcases h with rfl | rfl
    · show 1 ≤ _; decide
    · omega
  · rcases h with rfl | rfl
    · show 1 ≤ _; decide
    · exact hS
theorem lm3_len (S : ByteArray) (hS : S.size ≤ 40000) : (bytesL (lm3 S)).length ≤ 1000000 := by
  have := bytes_len (lm3 S) 40000 (lm3_fit S hS).2 (fun l h => by simp [lm3] at h) (by decide)
  omega
theorem parse_none : parseC ⟨#[]⟩ = 2 ∧ parseM ⟨#[]⟩ = zero := by
  have h : parseC ⟨#[]⟩ = 2 := by decide +kernel
  refine ⟨h, ?_⟩
  unfold parseM
  rw [if_neg (by rw [h]; decide)]
end Go.Proofs.YtjfikbnfabdkoaaDoor.Mg
