/- A block goes into the words: the reference. -/
import Derived.Test.YtoehmjkgjleaaaaDoorRefWord2
import Derived.Test.YtoehmjkgjleaaaaDoorWords
import Derived.Test.YtoehmjkgjleaaaaDoorRegion2
import Derived.Test.YtoehmjkgjleaaaaDoorShaMath3
import Derived.Test.YtoehmjkgjleaaaaDoorShaSched
import Derived.Deep.RegionWith
set_option linter.unusedVariables false
set_option linter.unusedSimpArgs false
namespace Go.Proofs.YtoehmjkgjleaaaaDoor.Sha
open Go.RowKit Go.Proofs.YtoehmjkgjleaaaaDoor.Cl Go.Proofs.YtoehmjkgjleaaaaDoor.Ws
theorem infoU64 : (Tryd.prog.info? 57).map (fun i => (i.zero, i.size, i.bytes)) = some (some (.int .u64 0), 1, 8) := by kernel_rfl
theorem part_next (W : Nat) (blk : List UInt8) (k j : Nat) (b : UInt8) (hj : j < 8) (hb : k * (W / 8) + j < blk.length) (hb' : blk[k * (W / 8) + j] = b) :
    IntKind.u64.wrap (IntKind.u64.wrap ((part W blk k j : Int) * 256) + IntKind.u64.wrap (b.toNat : Int)) = ((part W blk k (j + 1) : Nat) : Int) := by
  have hp := part_lt W blk k j
  have hm : 256 ^ j ≤ 256 ^ 7 := Nat.pow_le_pow_right (by decide) (by omega)
  have h7 : (256 : Nat) ^ 7 = 72057594037927936 := by decide
  have h2 := b.toNat_lt
  rw [part_succ W blk k j hb, hb', IntKind.wrap_u64, IntKind.wrap_u64, IntKind.wrap_u64]
  omega
theorem sched_succ16 (W : Nat) (blk : List UInt8) (k : Nat) (h : k < 16) : sched W blk (k + 1) = sched W blk k ++ [part W blk k (W / 8)] := by simp [sched, h, part]
theorem sched_succ (W : Nat) (blk : List UInt8) (k : Nat) (h : ¬ k < 16) : sched W blk (k + 1) = sched W blk k ++ [(sg1 W (nth (sched W blk k) (k - 2)) + nth (sched W blk k) (k - 7) + sg0 W (nth (sched W blk k) (k - 15)) + nth (sched W blk k) (k - 16)) % 2 ^ W] := by simp [sched, h]
theorem below_of_draws {w w' : World} (h : ∃ k, w' = w.drewN k) : Below w.heap.size w w' := by
  obtain ⟨k, rfl⟩ := h
  exact (Below.refl _ _).drewN' k
theorem refthree64b (w : World) (x : Nat) (a b c : Int) (hx : x < 18446744073709551616) (ha : 0 < a) (ha2 : a < 64) (hb : 0 < b) (hb2 : b < 64) (hc0 : 0 < c) (hc1 : c < 64) : Calls Tryd.prog 47 #[.int .u64 x, .int .i64 a, .int .i64 b, .int .i64 c, .int .i64 64, .bool false] w fun e w' => e = .returned (.int .u64 (three 64 x a.toNat b.toNat c.toNat : Nat)) ∧ Below w.heap.size w w' :=
  (refthree64 w x a b c hx ha ha2 hb hb2 hc0 hc1).mono fun _ _ ⟨h1, h2⟩ => ⟨h1, below_of_draws h2⟩
theorem refthree32b (w : World) (x : Nat) (a b c : Int) (hx : x < 4294967296) (ha : 0 < a) (ha2 : a < 32) (hb : 0 < b) (hb2 : b < 32) (hc0 : 0 < c) (hc1 : c < 32) : Calls Tryd.prog 47 #[.int .u64 x, .int .i64 a, .int .i64 b, .int .i64 c, .int .i64 32, .bool false] w fun e w' => e = .returned (.int .u64 (three 32 x a.toNat b.toNat c.toNat : Nat)) ∧ Below w.heap.size w w' :=
  (refthree32 w x a b c hx ha ha2 hb hb2 hc0 hc1).mono fun _ _ ⟨h1, h2⟩ => ⟨h1, below_of_draws h2⟩
theorem mixed_take (W : Nat) (blk : List UInt8) (h : List Nat) (j : Nat) (hj : j < 8) : (mixed W blk h).take (j + 1) = (mixed W blk h).take j ++ [(nth h j + nth (mixAll W blk h) j) % 2 ^ W] := by
  rw [List.take_succ_eq_append_getElem (by rw [mixed_length]; exact hj)]
  simp [mixed]
theorem mixed_length' : True := True.intro
attribute [local go_sem] wrap_add64
end Go.Proofs.YtoehmjkgjleaaaaDoor.Sha
