/- The reference's functions on words. The reference's functions on words, those that call; its tables. Slices of words: read, owned, appended to. Drawn regions once more: the first m operations are moves, which may be taken first; a head in a class of worlds; a tail in one order. A block goes into the words: the reference. -/
import Derived.Test.YtfaeigbfnjkojaaGreatDoorShaA
import Derived.Deep.QuietTactic
import Derived.BigQuiet
import Derived.Great.BuildSlice
import Derived.Test.YtfaeigbfnjkojaaGreatDoorGenA
import Derived.Lib.Hide
import Derived.Test.YtfaeigbfnjkojaaGreatDoorShaB
import Derived.Deep.RegionWith
set_option linter.unusedVariables false
set_option linter.unusedSimpArgs false
namespace Go.Proofs.YtfaeigbfnjkojaaGreatDoor.Sha
open Go.RowKit Go.Proofs.YtfaeigbfnjkojaaGreatDoor.Cl

theorem refcut32 (w : World) (x : Nat) : Calls Tryz.prog 90 #[.int .u64 x, .int .i64 32] w fun e w' => e = .returned (.int .u64 (x % 4294967296 : Nat)) ∧ w = w' := by
  go_enter Tryz.func90, Tryz.ntmps90
  go_wp2
  go_ret
  exact ⟨by simp, rfl⟩
theorem refcut64 (w : World) (x : Nat) : Calls Tryz.prog 90 #[.int .u64 x, .int .i64 64] w fun e w' => e = .returned (.int .u64 x) ∧ w = w' := by
  go_enter Tryz.func90, Tryz.ntmps90
  go_wp2
  go_ret
  exact ⟨by simp, rfl⟩
theorem refcut32y (w : World) (x y : Nat) (hy : y = x % 4294967296) : Calls Tryz.prog 90 #[.int .u64 x, .int .i64 32] w fun e w' => e = .returned (.int .u64 y) ∧ w = w' := by subst hy; exact refcut32 w x
theorem refcut64y (w : World) (x y : Nat) (hy : y = x) : Calls Tryz.prog 90 #[.int .u64 x, .int .i64 64] w fun e w' => e = .returned (.int .u64 y) ∧ w = w' := by subst hy; exact refcut64 w y
theorem right_val32 (x n : Nat) (hx : x < 4294967296) (hn : n < 32) : bits .or .u64 ((x : Int) / 2 ^ n) (IntKind.u64.wrap ((x : Int) * 2 ^ (32 - n))) = ((x / 2 ^ n ||| x * 2 ^ (32 - n) : Nat) : Int) := by
  have h1 : (x : Int) / 2 ^ n = ((x / 2 ^ n : Nat) : Int) := by rw [Int.natCast_ediv, Int.natCast_pow]; rfl
  have hp : 2 ^ (32 - n) ≤ 2 ^ 32 := Nat.pow_le_pow_right (by decide) (by omega)
  have hm : x * 2 ^ (32 - n) < 18446744073709551616 := by
    calc x * 2 ^ (32 - n) ≤ x * 2 ^ 32 := Nat.mul_le_mul_left x hp
      _ < 18446744073709551616 := by omega
  have h2 : IntKind.u64.wrap ((x : Int) * 2 ^ (32 - n)) = ((x * 2 ^ (32 - n) : Nat) : Int) := by
    rw [show (x : Int) * 2 ^ (32 - n) = ((x * 2 ^ (32 - n) : Nat) : Int) by rw [Int.natCast_mul, Int.natCast_pow]; rfl]
    rw [IntKind.wrap_u64]; omega
  rw [h1, h2, u64_or_nat _ _ (Nat.lt_of_le_of_lt (Nat.div_le_self _ _) (by omega)) hm]
theorem right_val64 (x n : Nat) (hx : x < 18446744073709551616) (hn : n < 64) : bits .or .u64 ((x : Int) / 2 ^ n) (IntKind.u64.wrap ((x : Int) * 2 ^ (64 - n))) = ((rot 64 x n : Nat) : Int) := by
  have h1 : (x : Int) / 2 ^ n = ((x / 2 ^ n : Nat) : Int) := by rw [Int.natCast_ediv, Int.natCast_pow]; rfl
  have h2 : IntKind.u64.wrap ((x : Int) * 2 ^ (64 - n)) = ((x * 2 ^ (64 - n) % 2 ^ 64 : Nat) : Int) := by
    rw [IntKind.wrap_u64, Int.natCast_emod, Int.natCast_mul, Int.natCast_pow]; rfl
  rw [h1, h2, u64_or_nat _ _ (Nat.lt_of_le_of_lt (Nat.div_le_self _ _) hx) (Nat.mod_lt _ (by decide)), Nat.or_comm, rot_left 64 x n hx]

theorem refright32 (w : World) (x : Nat) (n : Int) (hx : x < 4294967296) (hn : 0 < n) (hn2 : n < 32) : Calls Tryz.prog 99 #[.int .u64 x, .int .i64 n, .int .i64 32] w fun e w' => e = .returned (.int .u64 (rot 32 x n.toNat : Nat)) ∧ ∃ k, w' = w.drewN k := by
  have hm : min n.toNat 64 = n.toNat := by omega
  have hm2 : min (32 - n.toNat) 64 = 32 - n.toNat := by omega
  have e := right_val32 x n.toNat hx (by omega)
  have ht : (32 - n).toNat = 32 - n.toNat := by omega
  have hp : 0 ≤ 32 - n := by omega
  go_enter Tryz.func99, Tryz.ntmps99
  go_wp2_with fail
  go_quiet ((go_at_call 90; exact Calls.quiet_of_same ((refcut32 _ _).mono fun _ _ ⟨h1, h2⟩ => ⟨h1, h2.symm⟩)))
  go_wp2
  go_ret
  exact ⟨by rfl, _, rfl⟩

theorem refright64 (w : World) (x : Nat) (n : Int) (hx : x < 18446744073709551616) (hn : 0 < n) (hn2 : n < 64) : Calls Tryz.prog 99 #[.int .u64 x, .int .i64 n, .int .i64 64] w fun e w' => e = .returned (.int .u64 (rot 64 x n.toNat : Nat)) ∧ ∃ k, w' = w.drewN k := by
  have hm : min n.toNat 64 = n.toNat := by omega
  have hm2 : min (64 - n.toNat) 64 = 64 - n.toNat := by omega
  have e := right_val64 x n.toNat hx (by omega)
  have ht : (64 - n).toNat = 64 - n.toNat := by omega
  have hp : 0 ≤ 64 - n := by omega
  go_enter Tryz.func99, Tryz.ntmps99
  go_wp2_with fail
  go_quiet ((go_at_call 90; exact Calls.quiet_of_same ((refcut64 _ _).mono fun _ _ ⟨h1, h2⟩ => ⟨h1, h2.symm⟩)))
  go_wp2
  go_ret
  exact ⟨by rfl, _, rfl⟩
end Go.Proofs.YtfaeigbfnjkojaaGreatDoor.Sha
namespace Go.Proofs.YtfaeigbfnjkojaaGreatDoor.Sha
open Go.RowKit Go.Proofs.YtfaeigbfnjkojaaGreatDoor.Cl

theorem refthreeS32 (w : World) (x : Nat) (a b c : Int) (hx : x < 4294967296) (ha : 0 < a) (ha2 : a < 32) (hb : 0 < b) (hb2 : b < 32) (hc0 : 0 < c) (hc1 : c < 32) : Calls Tryz.prog 89 #[.int .u64 x, .int .i64 a, .int .i64 b, .int .i64 c, .int .i64 32, .bool true] w fun e w' => e = .returned (.int .u64 (threeS 32 x a.toNat b.toNat c.toNat : Nat)) ∧ ∃ k, w' = w.drewN k := by
  have hm : min c.toNat 64 = c.toNat := by omega
  have hc : 0 ≤ c := by omega
  go_enter Tryz.func89, Tryz.ntmps89
  go_wp2_with (go_at_call 99; refine (refright32 _ _ _ hx (by assumption) (by assumption)).mono ?_; rintro e w1 ⟨rfl, n1, rfl⟩)
  go_ret
  refine ⟨?_, ?_⟩
  · show Ending.returned (.int .u64 (bits .xor .u64 (bits .xor .u64 (rot 32 x a.toNat : Int) (rot 32 x b.toNat : Int)) ((x : Int) / 2 ^ c.toNat))) = _
    rw [xor_rot 32 x _ _ (by decide), show (x : Int) / 2 ^ c.toNat = ((x / 2 ^ c.toNat : Nat) : Int) by rw [Int.natCast_ediv, Int.natCast_pow]; rfl, xor_threeS 32 x _ _ _ (by decide) hx]
  · first | exact ⟨_, rfl⟩ | exact ⟨_, World.drewN_drewN _ _ _⟩ | exact ⟨_, by rw [World.drewN_drewN, World.drewN_drewN]⟩

theorem refthree32 (w : World) (x : Nat) (a b c : Int) (hx : x < 4294967296) (ha : 0 < a) (ha2 : a < 32) (hb : 0 < b) (hb2 : b < 32) (hc0 : 0 < c) (hc1 : c < 32) : Calls Tryz.prog 89 #[.int .u64 x, .int .i64 a, .int .i64 b, .int .i64 c, .int .i64 32, .bool false] w fun e w' => e = .returned (.int .u64 (three 32 x a.toNat b.toNat c.toNat : Nat)) ∧ ∃ k, w' = w.drewN k := by
  have hm : min c.toNat 64 = c.toNat := by omega
  have hc : 0 ≤ c := by omega
  go_enter Tryz.func89, Tryz.ntmps89
  go_wp2_with (go_at_call 99; refine (refright32 _ _ _ hx (by assumption) (by assumption)).mono ?_; rintro e w1 ⟨rfl, n1, rfl⟩)
  go_ret
  refine ⟨?_, ?_⟩
  · show Ending.returned (.int .u64 (bits .xor .u64 (bits .xor .u64 (rot 32 x a.toNat : Int) (rot 32 x b.toNat : Int)) (rot 32 x c.toNat : Int))) = _
    rw [xor_rot 32 x _ _ (by decide), xor_three 32 x _ _ _ (by decide)]
  · first | exact ⟨_, rfl⟩ | exact ⟨_, World.drewN_drewN _ _ _⟩ | exact ⟨_, by rw [World.drewN_drewN, World.drewN_drewN]⟩

theorem refthreeS64 (w : World) (x : Nat) (a b c : Int) (hx : x < 18446744073709551616) (ha : 0 < a) (ha2 : a < 64) (hb : 0 < b) (hb2 : b < 64) (hc0 : 0 < c) (hc1 : c < 64) : Calls Tryz.prog 89 #[.int .u64 x, .int .i64 a, .int .i64 b, .int .i64 c, .int .i64 64, .bool true] w fun e w' => e = .returned (.int .u64 (threeS 64 x a.toNat b.toNat c.toNat : Nat)) ∧ ∃ k, w' = w.drewN k := by
  have hm : min c.toNat 64 = c.toNat := by omega
  have hc : 0 ≤ c := by omega
  go_enter Tryz.func89, Tryz.ntmps89
  go_wp2_with (go_at_call 99; refine (refright64 _ _ _ hx (by assumption) (by assumption)).mono ?_; rintro e w1 ⟨rfl, n1, rfl⟩)
  go_ret
  refine ⟨?_, ?_⟩
  · show Ending.returned (.int .u64 (bits .xor .u64 (bits .xor .u64 (rot 64 x a.toNat : Int) (rot 64 x b.toNat : Int)) ((x : Int) / 2 ^ c.toNat))) = _
    rw [xor_rot 64 x _ _ (by decide), show (x : Int) / 2 ^ c.toNat = ((x / 2 ^ c.toNat : Nat) : Int) by rw [Int.natCast_ediv, Int.natCast_pow]; rfl, xor_threeS 64 x _ _ _ (by decide) hx]
  · first | exact ⟨_, rfl⟩ | exact ⟨_, World.drewN_drewN _ _ _⟩ | exact ⟨_, by rw [World.drewN_drewN, World.drewN_drewN]⟩

theorem refthree64 (w : World) (x : Nat) (a b c : Int) (hx : x < 18446744073709551616) (ha : 0 < a) (ha2 : a < 64) (hb : 0 < b) (hb2 : b < 64) (hc0 : 0 < c) (hc1 : c < 64) : Calls Tryz.prog 89 #[.int .u64 x, .int .i64 a, .int .i64 b, .int .i64 c, .int .i64 64, .bool false] w fun e w' => e = .returned (.int .u64 (three 64 x a.toNat b.toNat c.toNat : Nat)) ∧ ∃ k, w' = w.drewN k := by
  have hm : min c.toNat 64 = c.toNat := by omega
  have hc : 0 ≤ c := by omega
  go_enter Tryz.func89, Tryz.ntmps89
  go_wp2_with (go_at_call 99; refine (refright64 _ _ _ hx (by assumption) (by assumption)).mono ?_; rintro e w1 ⟨rfl, n1, rfl⟩)
  go_ret
  refine ⟨?_, ?_⟩
  · show Ending.returned (.int .u64 (bits .xor .u64 (bits .xor .u64 (rot 64 x a.toNat : Int) (rot 64 x b.toNat : Int)) (rot 64 x c.toNat : Int))) = _
    rw [xor_rot 64 x _ _ (by decide), xor_three 64 x _ _ _ (by decide)]
  · first | exact ⟨_, rfl⟩ | exact ⟨_, World.drewN_drewN _ _ _⟩ | exact ⟨_, by rw [World.drewN_drewN, World.drewN_drewN]⟩

set_option maxRecDepth 20000 in
theorem refk (w : World) (t : Nat) (ht : t < 80) : Calls Tryz.prog 91 #[.int .i64 t] w fun e w' => e = .returned (.int .u64 (nth wordsL t : Nat)) ∧ Below w.heap.size w w' := by
  have hi : (t : Int) < 80 := by omega
  have hl : t < wordsL.length := ht
  go_enter Tryz.func91, Tryz.ntmps91
  go_wp2_with (refine wpList_buildFlat rfl 144 50 80 _ rfl .u64 (wordsL.map fun (x : Nat) => (x : Int)) Tryz.underlying144 (by kernel_rfl) (by kernel_rfl) (by rfl) (by decide) (by decide) (by kernel_rfl) ?_
               generalize hX : World.alloc w _ = X
               have hR : Row X w.heap.size 50 wordsL := by subst hX; have := Rg.Blk.new w (((wordsL.map fun (x : Nat) => (x : Int)).map (Value.int .u64)).toArray) 50; rw [List.map_map] at this; exact this
               have HB := Lib.hid (show Below w.heap.size w X by subst hX; exact (Below.refl _ _).alloc (Nat.le_refl _) _)
               have hc := hR.cell t hl
               clear hX hR)
  go_ret
  exact ⟨rfl, HB.out⟩
set_option maxRecDepth 20000 in
theorem refstart (w : World) : Calls Tryz.prog 73 #[] w fun e w' => e = .returned (.slice (some ⟨w.heap.size, 0, none⟩) 8 8) ∧ w' = w.alloc (.cells (u64s firstL) 50) := by
  go_enter Tryz.func73, Tryz.ntmps73
  go_wp2
  go_ret
  exact ⟨rfl, rfl⟩
end Go.Proofs.YtfaeigbfnjkojaaGreatDoor.Sha
namespace Go.Proofs.YtfaeigbfnjkojaaGreatDoor.Ws
open Go.RowKit Go.Proofs.YtfaeigbfnjkojaaGreatDoor.Cl
def vals (xs : List Nat) : List Value := xs.map fun (x : Nat) => Value.int .u64 (x : Int)
theorem vals_length (xs : List Nat) : (vals xs).length = xs.length := by simp [vals]
/-- a slice that reads as the words xs -/
def Words (w : World) (v : Value) (xs : List Nat) : Prop := ∃ b c, v = .slice (some ⟨b, 0, none⟩) xs.length c ∧ xs.length ≤ c ∧ b < w.heap.size ∧ ∀ j, j < xs.length → w.cell? ⟨b, j, none⟩ = some (.int .u64 (nth xs j : Nat))
theorem Words.below {w w' : World} {v : Value} {xs : List Nat} (h : Words w v xs) (hb : Below w.heap.size w w') : Words w' v xs := by
  obtain ⟨b, c, hv, hc, hl, hx⟩ := h
  exact ⟨b, c, hv, hc, Nat.lt_of_lt_of_le hl hb.size, fun j hj => (hb.cell (p := ⟨b, j, none⟩) hl).trans (hx j hj)⟩
/-- a slice that the call owns, from block B on -/
def Own (w : World) (B T : Nat) (g cap : Nat) (xs : List Nat) : Prop := w.ownsRow B T 1 (.slice (some ⟨g, 0, none⟩) xs.length cap) xs.length (vals xs)
theorem Own.cell {w : World} {B T g cap : Nat} {xs : List Nat} (h : Own w B T g cap xs) (j : Nat) (hj : j < xs.length) : w.cell? ⟨g, j, none⟩ = some (.int .u64 (nth xs j : Nat)) := by
  rw [World.ownsRow.cellAt h j (by omega)]
  simp [vals, nth, hj]
theorem Own.lt {w : World} {B T g cap : Nat} {xs : List Nat} (h : Own w B T g cap xs) : B ≤ g ∧ g < w.heap.size := World.ownsRow.lt h g rfl
theorem Own.below {w w' : World} {B T g cap : Nat} {xs : List Nat} (h : Own w B T g cap xs) (hb : Below w.heap.size w w') : Own w' B T g cap xs :=
  World.ownsRow.kept h (row := none) ⟨hb.os, hb.tape, hb.output, hb.size, fun k hk _ => hb.block k hk⟩ (.inr (by simp [Value.ownBlock]))
theorem Own.cap {w : World} {B T g cap : Nat} {xs : List Nat} (h : Own w B T g cap xs) : xs.length ≤ cap := by
  rcases h.2 with ⟨h, _⟩ | ⟨g', cap', cur, hv, _, _, hc, _⟩
  · cases h
  · cases hv; exact hc
theorem Own.words {w : World} {B T g cap : Nat} {xs : List Nat} (h : Own w B T g cap xs) : Words w (.slice (some ⟨g, 0, none⟩) xs.length cap) xs :=
  ⟨g, cap, rfl, h.cap, h.lt.2, fun j hj => h.cell j hj⟩
theorem Own.new (w : World) (T B : Nat) (xs : List Nat) (hB : B ≤ w.heap.size) (hm : xs.length ≤ maxLen) : Own (w.alloc (.cells (u64s xs) T)) B T w.heap.size xs.length xs := by
  have := World.ownsRow_lit (base := B) (e := T) (size := 1) w (u64s xs) xs.length hB hm (by simp [u64s])
  exact this
theorem append_vals {w : World} {B T : Nat} {v : Value} {xs : List Nat} {x : Nat} (h : w.ownsRow B T 1 v (xs.length + 1) (vals xs ++ [.int .u64 (x : Int)])) : ∃ g cap, v = .slice (some ⟨g, 0, none⟩) (xs ++ [x]).length cap ∧ Own w B T g cap (xs ++ [x]) := by
  have e : vals xs ++ [.int .u64 (x : Int)] = vals (xs ++ [x]) := by simp [vals]
  rw [e] at h
  have hl : xs.length + 1 = (xs ++ [x]).length := by simp
  rw [hl] at h
  rcases h.2 with ⟨_, h0⟩ | ⟨g, cap, cur, hv, _⟩
  · simp at h0
  · subst hv; exact ⟨g, cap, rfl, h⟩
theorem Own.row {w : World} {B T g cap n : Nat} {xs : List Nat} (h : Own w B T g cap xs) (hn : xs.length = n) : w.ownsRow B T 1 (.slice (some ⟨g, 0, none⟩) n cap) n (vals xs) := hn ▸ h
theorem append_at {w : World} {B T n : Nat} {v : Value} {xs : List Nat} {x : Nat} (hn : xs.length = n) (h : w.ownsRow B T 1 v (n + 1) (vals xs ++ [.int .u64 (x : Int)])) : ∃ g cap, v = .slice (some ⟨g, 0, none⟩) (n + 1) cap ∧ Own w B T g cap (xs ++ [x]) := by
  subst hn
  obtain ⟨g, cap, hv, ho⟩ := append_vals h
  exact ⟨g, cap, by rw [hv]; simp, ho⟩
theorem one_src (w : World) (T : TypeId) (x : Int) : ∀ (j : Nat) u, [Value.int .u64 x][j]? = some u → (w.alloc (.cells #[.int .u64 x] T)).cell? ((⟨w.heap.size, 0, none⟩ : Addr).add j) = some u := by
  intro j u hj
  match j, hj with
  | 0, hj => simp at hj; subst hj; exact (Rg.Blk.new w _ _).cell 0 rfl
theorem own_of_row {w : World} {B T n : Nat} {v : Value} {xs : List Nat} (hn : xs.length = n) (hpos : 0 < n) (h : w.ownsRow B T 1 v n (vals xs)) : ∃ g cap, v = .slice (some ⟨g, 0, none⟩) n cap ∧ Own w B T g cap xs := by
  subst hn
  rcases h.2 with ⟨_, h0⟩ | ⟨g, cap, cur, hv, _⟩
  · omega
  · subst hv; exact ⟨g, cap, rfl, h⟩
/-- eight words at block g -/
def At8 (w : World) (g : Nat) (xs : List Nat) : Prop := g < w.heap.size ∧ ∀ j, j < 8 → w.cell? ⟨g, j, none⟩ = some (.int .u64 (nth xs j : Nat))
theorem At8.below {w w' : World} {g : Nat} {xs : List Nat} (h : At8 w g xs) (hb : Below w.heap.size w w') : At8 w' g xs :=
  ⟨Nat.lt_of_lt_of_le h.1 hb.size, fun j hj => (hb.cell (p := ⟨g, j, none⟩) h.1).trans (h.2 j hj)⟩
theorem Own.at8 {w : World} {B T g cap : Nat} {xs : List Nat} (h : Own w B T g cap xs) (hl : xs.length = 8) : At8 w g xs := ⟨h.lt.2, fun j hj => h.cell j (by omega)⟩
theorem At8.grown {w w' : World} {g : Nat} {xs : List Nat} {row : Option Nat} (h : At8 w g xs) (hg : w.grownBy w' row) (hn : some g ≠ row) : At8 w' g xs :=
  ⟨Nat.lt_of_lt_of_le h.1 hg.size, fun j hj => (World.cell?_of_block (w := w) (a := ⟨g, j, none⟩) (hg.block g h.1 hn)).trans (h.2 j hj)⟩
end Go.Proofs.YtfaeigbfnjkojaaGreatDoor.Ws
namespace Go.Proofs.YtfaeigbfnjkojaaGreatDoor.Rg
open Go.RowKit
section
variable {P : Program} {ops : Array Oper} {md : Region.Mode} {C : World → Prop}
def sinkFrom (md : Region.Mode) (ops : Array Oper) (m n : Nat) : Bool :=
  (List.range n).all fun i => decide (i < m) || (List.range (n + 1)).any fun j => decide (i < j) && Region.waitsFor md ops j i
theorem tail_waits_from {m n : Nat} {listed : Array Bool} (hs : sinkFrom md ops m n = true) (hc : Region.chainB md ops n = true) (hn : n < ops.size) (inv : HeadInv md ops n listed) :
    ∀ (d i : Nat), n - i = d → m ≤ i → i < n → listed.getD i true = false → ∀ t, n ≤ t → t ∉ Region.ready md ops listed := by
  intro d
  induction d using Nat.strongRecOn with
  | _ d ih =>
    intro i hd hmi hi hun t ht hr
    obtain ⟨_, ot, hot, hall⟩ := mem_ready.1 hr
    have htlt : t < ops.size := (Array.getElem?_eq_some_iff.1 hot).1
    by_cases htn : t = n
    · subst htn
      have h1 := List.all_eq_true.1 hs i (List.mem_range.2 hi)
      simp only [Bool.or_eq_true, decide_eq_true_eq] at h1
      rcases h1 with h1 | h1
      · omega
      obtain ⟨j, hj, hj2⟩ := List.any_eq_true.1 h1
      simp only [Bool.and_eq_true, decide_eq_true_eq] at hj2
      obtain ⟨oj, hoj, e, he, hb, hon⟩ := Region.waitsFor_spec hj2.2
      have hjle : j ≤ t := by have := List.mem_range.1 hj; omega
      by_cases hjt : j = t
      · subst hjt
        have : oj = ot := Option.some.inj (hoj.symm.trans hot)
        subst this
        have h2 := hall e he hb
        rw [hon, getD_both hun] at h2
        cases h2
      · cases hl : listed.getD j false with
        | true =>
          have h2 := inv.closed j oj hoj hl e he hb
          rw [hon, getD_both hun] at h2
          cases h2
        | false =>
          have hjs : j < listed.size := by rw [inv.size]; omega
          exact ih (t - j) (by omega) j rfl (by omega) (by omega) (getD_in hjs hl) t (Nat.le_refl _) hr
    · have h1 := List.all_eq_true.1 hc t (List.mem_range.2 htlt)
      simp only [Bool.or_eq_true, decide_eq_true_eq] at h1
      rcases h1 with h1 | h1
      · omega
      · obtain ⟨o', ho', e, he, hb, hon⟩ := Region.waitsFor_spec h1
        have : o' = ot := Option.some.inj (ho'.symm.trans hot)
        subst this
        have h2 := hall e he hb
        rw [hon, getD_both (inv.tail (t - 1) (by omega) (by omega))] at h2
        cases h2
theorem headQ_first_from {m n i : Nat} {oi : Oper} {v : Value} {L : Array Bool → Act → Prop} (hi : ops[i]? = some oi) (hsel : ∀ (j : Nat) (o : Oper) cs b, ops[j]? = some o → o.op ≠ .select cs b)
    (hs : sinkFrom md ops m n = true) (hc : Region.chainB md ops n = true) (hn : n < ops.size) (hmi : m ≤ i) (hin : i < n)
    (hdone : ∀ listed a, L listed a → ∀ j ∈ Region.ready md ops listed, n ≤ j) :
    ∀ (f : Nat) (listed : Array Bool) (a : Act), HeadInv md ops n listed →
      (∀ j oj, ops[j]? = some oj → j ≠ i → listed.getD j true = false → (∀ e ∈ oj.after, Region.binds md e = true → e.on ≠ i) → oi.apart ops oj = true) →
      i ∈ Region.ready md ops listed → YieldsIn P ops C oi v a →
      headQ P md ops C n L f (listed.setIfInBounds i true) (a.put oi.dst v) → headQ P md ops C n L (f + 1) listed a := by
  intro f
  induction f with
  | zero =>
    intro listed a inv _ hr hy H
    have hun := (mem_ready.1 hr).1
    refine ⟨fun h => (by rw [h] at hr; cases hr), fun j hj => ?_⟩
    have hjn : j < n := by
      rcases Nat.lt_or_ge j n with h | h
      · exact h
      · exact absurd hj (tail_waits_from hs hc hn inv _ i rfl hmi hin hun j h)
    refine ⟨hjn, ?_⟩
    by_cases hji : j = i
    · subst hji; exact hy.qOp hi H
    · have := hdone _ _ H j (ready_mono hj hji)
      omega
  | succ f ih =>
    intro listed a inv hfree hr hy H
    have hun := (mem_ready.1 hr).1
    refine ⟨fun h => (by rw [h] at hr; cases hr), fun j hj => ?_⟩
    have hjn : j < n := by
      rcases Nat.lt_or_ge j n with h | h
      · exact h
      · exact absurd hj (tail_waits_from hs hc hn inv _ i rfl hmi hin hun j h)
    refine ⟨hjn, ?_⟩
    by_cases hji : j = i
    · subst hji; exact hy.qOp hi H
    · have h1 := (H.2 j (ready_mono hj hji)).2
      obtain ⟨hjun, oj, hoj, hall⟩ := mem_ready.1 hj
      have hnot : ∀ e ∈ oj.after, Region.binds md e = true → e.on ≠ i := fun e he hb heq => by
        have h1 := hall e he hb
        rw [heq, getD_both hun] at h1
        cases h1
      have h2 := qOp_put hoj (hfree j oj hoj hji hjun hnot) (fun cs b => hsel i oi cs b hi) (fun cs b => hsel j oj cs b hoj) hy h1
      have hfree' : ∀ k ok, ops[k]? = some ok → k ≠ i → (listed.setIfInBounds j true).getD k true = false →
          (∀ e ∈ ok.after, Region.binds md e = true → e.on ≠ i) → oi.apart ops ok = true := fun k ok hk hki hun hno => by
        refine hfree k ok hk hki ?_ hno
        by_cases hjk : j = k
        · subst hjk; exact hjun
        · rw [getD_set_ne true hjk] at hun; exact hun
      refine qOp_mono (fun a' h3 => ih (listed.setIfInBounds j true) a' (inv.set hj hjn) hfree' (ready_mono hr (Ne.symm hji)) h3.1 ?_) h2
      rw [Array.setIfInBounds_comm _ _ hji]
      exact h3.2
theorem headQ_lex_from {m n g : Nat} {Lq : Act → Prop} (hsel : Region.noSelect ops = true) (hs : sinkFrom md ops m n = true) (hc : Region.chainB md ops n = true) (hn : n < ops.size) :
    ∀ (l : List Oper) (k : Nat) (listed : Array Bool) (a : Act), m ≤ k → (∀ j, j < l.length → l[j]? = ops[k + j]?) → k + l.length = n → HeadInv md ops n listed →
    Region.lexHead md ops g l.length k listed = true → wpQuiet P ops C Lq l a →
    headQ P md ops C n (fun listed' a' => Region.seqB md ops g n listed' = true ∧ Lq a') l.length listed a
  | [], k, listed, a, _, _, hk, _, hB, h => by
    have : k = n := by simpa using hk
    subst this
    exact ⟨by simpa [Region.lexHead] using hB, h⟩
  | o :: l, k, listed, a, hmk, hl, hk, inv, hB, h => by
    have h0 : ops[k]? = some o := by simpa using (hl 0 (by simp)).symm
    simp only [List.length_cons, Region.lexHead, Bool.and_eq_true] at hB
    obtain ⟨⟨hr, hf⟩, hB'⟩ := hB
    have hkn : k < n := by simp only [List.length_cons] at hk; omega
    have hr' : k ∈ Region.ready md ops listed := by simpa using hr
    have hst : qOp P ops C k (wpQuiet P ops C Lq l) a := by unfold qOp; simp only [h0]; exact h
    obtain ⟨v, hy, hK⟩ := yieldsIn_of_qOp h0 hst
    exact headQ_first_from h0 (Region.noSelect_spec hsel) hs hc hn hmk hkn (fun listed' a' hL => seqB_ready hL.1) l.length listed a inv (Region.free_spec h0 hf) hr' hy
      (headQ_lex_from hsel hs hc hn l (k + 1) _ _ (by omega) (fun j hj => by have := hl (j + 1) (by simp; omega); simpa [Nat.add_assoc, Nat.add_comm 1 j] using this) (by simp only [List.length_cons] at hk; omega) (inv.set hr' hkn) hB' hK)
def moveTailB (ops : Array Oper) (n : Nat) : Bool :=
  Region.noSelect ops && decide (n < ops.size) && decide (0 < n) && sinkFrom .any ops 1 n && Region.chainB .any ops n &&
  (Region.ready .any ops (Array.replicate ops.size false)).contains 0 && Region.free .any ops (Array.replicate ops.size false) 0 &&
  Region.lexHead .any ops (ops.size - n) (n - 1) 1 ((Array.replicate ops.size false).setIfInBounds 0 true)
theorem wp_region_move_tail {id : Nat} {Q : Exit → Act → World → Prop} {a : Act} {w : World} {o0 : Oper} {l : List Oper} (n : Nat) (x : Operand) (hm : P.follows .mixedOrders = true) (ho : o0.op = .move x) (hg : o0.guard = none)
    (hB : moveTailB (o0 :: l).toArray n = true) (hQ : ∀ c a v w, Q (.panic c) (a.put o0.dst v) w → Q (.panic c) a w)
    (hC : C { w with drawn := w.drawn + 1 })
    (h : wpQuiet P (o0 :: l).toArray C (fun a' => ∀ w', C w' → wpList P (o0 :: l).toArray Q ((o0 :: l).drop n) a' w') (l.take (n - 1)) (a.put o0.dst (a.eval x))) : (Code.region id (o0 :: l).toArray true).wp P Q a w := by
  simp only [moveTailB, Bool.and_eq_true, decide_eq_true_eq] at hB
  obtain ⟨⟨⟨⟨⟨⟨⟨hsel, hn⟩, hn0⟩, hs⟩, hc⟩, hr0⟩, hf0⟩, hlex⟩ := hB
  have hr0' : 0 ∈ Region.ready .any (o0 :: l).toArray (Array.replicate (o0 :: l).toArray.size false) := by simpa using hr0
  have h00 : (o0 :: l).toArray[0]? = some o0 := by simp
  have hn' : n < (o0 :: l).length := by simpa using hn
  have htl : (l.take (n - 1)).length = n - 1 := by simp at hn' ⊢; omega
  have hdl : ((o0 :: l).drop n).length = (o0 :: l).toArray.size - n := by simp
  have inv0 : HeadInv .any (o0 :: l).toArray n (Array.replicate (o0 :: l).toArray.size false) :=
    ⟨by simp, fun j oj _ hl => (by rw [getD_replicate_false] at hl; cases hl), fun t _ ht => getD_in (by simpa using ht) (getD_replicate_false _ _)⟩
  have H := headQ_lex_from (md := .any) (C := C) (g := (o0 :: l).toArray.size - n) hsel hs hc hn (l.take (n - 1)) 1 _ (a.put o0.dst (a.eval x)) (Nat.le_refl _) (fun j hj => by
    have hj' : j < n - 1 := by rw [htl] at hj; exact hj
    simp [hj', Nat.add_comm 1 j]) (by omega) (inv0.set hr0' hn0) (by rw [htl]; exact hlex) h
  refine wp_region_any hm ?_
  have H2 := any_of_headQ (Q' := Q) (g := (o0 :: l).toArray.size - n) (fun listed a' w' hw' hL => by
    have := wpAny_of_seq (md := .any) (Q' := Q) ((o0 :: l).drop n) n listed a' w' (fun j => by simp [List.getElem?_drop]) (by rw [hdl]; exact hL.1) (hL.2 w' hw')
    rwa [hdl] at this) _ _ _ _ hC H
  rw [htl, show n - 1 + ((o0 :: l).toArray.size - n) = (o0 :: l).toArray.size - 1 by omega] at H2
  have hy : Yields P (o0 :: l).toArray o0 (a.eval x) a := .inl ⟨by simp [Region.wanted, hg], fun w => BigFrame.run_move x ho w⟩
  have := wpAny_first (md := .any) (Q := Q) h00 (Region.noSelect_spec hsel) (fun c a' w' hp => hQ c a' _ w' hp) ((o0 :: l).toArray.size - 1) _ a _ (Region.free_spec h00 hf0) hr0' hy H2
  rwa [show (o0 :: l).toArray.size - 1 + 1 = (o0 :: l).toArray.size by omega] at this
theorem wp_region_move_later {id : Nat} {Q : Exit → Act → World → Prop} {a : Act} {w : World} {o0 : Oper} {l : List Oper} (B n : Nat) (x : Operand) (hm : P.follows .mixedOrders = true) (ho : o0.op = .move x) (hg : o0.guard = none)
    (hB : moveTailB (o0 :: l).toArray n = true) (hQ : ∀ c a v w, Q (.panic c) (a.put o0.dst v) w → Q (.panic c) a w)
    (h : wpQuiet P (o0 :: l).toArray (fun w' => ∃ s : Later B w, w' = s.val) (fun a' => ∀ w', (∃ s : Later B w, w' = s.val) → wpList P (o0 :: l).toArray Q ((o0 :: l).drop n) a' w') (l.take (n - 1)) (a.put o0.dst (a.eval x))) : (Code.region id (o0 :: l).toArray true).wp P Q a w :=
  wp_region_move_tail (C := fun w' => ∃ s : Later B w, w' = s.val) n x hm ho hg hB hQ ⟨⟨_, Below.drew (Below.refl B w)⟩, rfl⟩ h
end
end Go.Proofs.YtfaeigbfnjkojaaGreatDoor.Rg
namespace Go.Proofs.YtfaeigbfnjkojaaGreatDoor.Sha
open Go.RowKit Go.Proofs.YtfaeigbfnjkojaaGreatDoor.Cl Go.Proofs.YtfaeigbfnjkojaaGreatDoor.Ws
theorem infoU64 : (Tryz.prog.info? 50).map (fun i => (i.zero, i.size, i.bytes)) = some (some (.int .u64 0), 1, 8) := by kernel_rfl
theorem part_next (W : Nat) (blk : List UInt8) (k j : Nat) (b : UInt8) (hj : j < 8) (hb : k * (W / 8) + j < blk.length) (hb' : blk[k * (W / 8) + j] = b) :
    IntKind.u64.wrap (IntKind.u64.wrap ((part W blk k j : Int) * 256) + IntKind.u64.wrap (b.toNat : Int)) = ((part W blk k (j + 1) : Nat) : Int) := by
  have hp := part_lt W blk k j
  have hm : 256 ^ j ≤ 256 ^ 7 := Nat.pow_le_pow_right (by decide) (by omega)
  have h7 : (256 : Nat) ^ 7 = 72057594037927936 := by decide
  have h2 := b.toNat_lt
  rw [part_succ W blk k j hb, hb', IntKind.wrap_u64, IntKind.wrap_u64, IntKind.wrap_u64]
  omega
theorem sched_succ16 (W : Nat) (blk : List UInt8) (k : Nat) (h : k < 16) : sched W blk (k + 1) = sched W blk k ++ [part W blk k (W / 8)] := by simp [sched, h, part]
theorem sched_succ (W : Nat) (blk : List UInt8) (k : Nat) (h : ¬ k < 16) : sched W blk (k + 1) = sched W blk k ++ [(sg1 W (nth (sched W blk k) (k - 2)) + nth (sched W blk k) (k - 7) + sg0 W (nth (sched W blk k) (k - 15)) + nth (sched W blk k) (k - 16)) % 2 ^ W] := by simp [sched, h]
theorem below_of_draws {w w' : World} (h : ∃ k, w' = w.drewN k) : Below w.heap.size w w' := by
  obtain ⟨k, rfl⟩ := h
  exact (Below.refl _ _).drewN' k
theorem refthree64b (w : World) (x : Nat) (a b c : Int) (hx : x < 18446744073709551616) (ha : 0 < a) (ha2 : a < 64) (hb : 0 < b) (hb2 : b < 64) (hc0 : 0 < c) (hc1 : c < 64) : Calls Tryz.prog 89 #[.int .u64 x, .int .i64 a, .int .i64 b, .int .i64 c, .int .i64 64, .bool false] w fun e w' => e = .returned (.int .u64 (three 64 x a.toNat b.toNat c.toNat : Nat)) ∧ Below w.heap.size w w' :=
  (refthree64 w x a b c hx ha ha2 hb hb2 hc0 hc1).mono fun _ _ ⟨h1, h2⟩ => ⟨h1, below_of_draws h2⟩
theorem refthree32b (w : World) (x : Nat) (a b c : Int) (hx : x < 4294967296) (ha : 0 < a) (ha2 : a < 32) (hb : 0 < b) (hb2 : b < 32) (hc0 : 0 < c) (hc1 : c < 32) : Calls Tryz.prog 89 #[.int .u64 x, .int .i64 a, .int .i64 b, .int .i64 c, .int .i64 32, .bool false] w fun e w' => e = .returned (.int .u64 (three 32 x a.toNat b.toNat c.toNat : Nat)) ∧ Below w.heap.size w w' :=
  (refthree32 w x a b c hx ha ha2 hb hb2 hc0 hc1).mono fun _ _ ⟨h1, h2⟩ => ⟨h1, below_of_draws h2⟩
theorem mixed_take (W : Nat) (blk : List UInt8) (h : List Nat) (j : Nat) (hj : j < 8) : (mixed W blk h).take (j + 1) = (mixed W blk h).take j ++ [(nth h j + nth (mixAll W blk h) j) % 2 ^ W] := by
  rw [List.take_succ_eq_append_getElem (by rw [mixed_length]; exact hj)]
  simp [mixed]
theorem mixed_length' : True := True.intro
attribute [local go_sem] wrap_add64
end Go.Proofs.YtfaeigbfnjkojaaGreatDoor.Sha
