/- Arrays of bytes, compared. -/
import Derived.Test.YtfaeigbfnjkojaaGreatDoorGenA
import Derived.ChangeKeysEq
set_option linter.unusedVariables false
set_option linter.unusedSimpArgs false
namespace Go.Proofs.YtfaeigbfnjkojaaGreatDoor.Cv
open Go.RowKit
variable {P : Program}
theorem run_part_byte (w : World) (e : TypeId) (he : P.underlying e = some (.int .u8)) (cs : Array Value) (j : Nat) (v : Value) (h : cs[j]? = some v) : (part e cs j).run P w = .ok v w := by
  unfold part isAgg
  simp [Sem.run_bind, run_underlying he, h]
theorem run_eqItems_bytes (w : World) (e : TypeId) (he : P.underlying e = some (.int .u8)) (hc : P.cellsOf e = 1) (d : Nat) (a b : List UInt8) (hl : a.length = b.length) : ∀ (m j : Nat), j + m = a.length →
    (Op.eqItems (d + 1) e (P.cellsOf e) (bytesV a) (bytesV b) (List.range' j m)).run P w = .ok (a.drop j == b.drop j) w
  | 0, j, h => by
    rw [List.drop_eq_nil_of_le (by omega), List.drop_eq_nil_of_le (by omega)]
    simp [Op.eqItems]
  | m + 1, j, h => by
    have ha : a[j]? = some (a[j]'(by omega)) := List.getElem?_eq_getElem _
    have hb : b[j]? = some (b[j]'(by omega)) := List.getElem?_eq_getElem _
    rw [List.range'_succ]
    simp only [Op.eqItems, Sem.run_bind, hc, Nat.mul_one, run_part_byte (P := P) w e he _ _ _ (bytesV_get a j _ ha), run_part_byte (P := P) w e he _ _ _ (bytesV_get b j _ hb), Result.andThen_ok,
      run_equalIn_int (P := P) w d e .u8 .u8 _ _ he]
    have ih := run_eqItems_bytes w e he hc d a b hl m (j + 1) (by omega)
    rw [hc] at ih
    rw [List.drop_eq_getElem_cons (i := j) (l := a) (by omega), List.drop_eq_getElem_cons (i := j) (l := b) (by omega)]
    by_cases h1 : a[j] = b[j]
    · have e0 : ∀ (x : UInt8) (l l' : List UInt8), ((x :: l) == (x :: l')) = (l == l') := fun x l l' => by simp [List.cons_beq_cons]
      rw [h1, e0]
      simp only [beq_self_eq_true, Bool.not_true, Bool.false_eq_true, if_false]
      exact ih
    · have h2 : ((((a[j]'(by omega)).toNat : Int)) == (((b[j]'(by omega)).toNat : Int))) = false := by
        simp only [beq_eq_false_iff_ne, ne_eq, Int.natCast_inj]
        exact fun e => h1 (UInt8.toNat_inj.1 e)
      have e0 : ((a[j]'(by omega) :: a.drop (j + 1)) == (b[j]'(by omega) :: b.drop (j + 1))) = false := by
        rw [beq_eq_false_iff_ne]; intro e; exact h1 (List.cons.inj e).1
      rw [h2, e0]
      simp
theorem run_equal_bytes (w : World) (t e : TypeId) (n : Nat) (hu : P.underlying t = some (.array n e)) (he : P.underlying e = some (.int .u8)) (hi : (P.info? e).map (fun i => (i.zero, i.size, i.bytes)) = some (some (.int .u8 0), 1, 1))
    (a b : List UInt8) (ha : a.length = n) (hb : b.length = n) : (Op.equal t (.agg (bytesV a)) (.agg (bytesV b))).run P w = .ok (a == b) w := by
  obtain ⟨i, hi0, hz0, hz1, hz2⟩ := info_parts hi
  have hc : P.cellsOf e = 1 := by unfold Program.cellsOf; simp [hi0, hz1]
  unfold Op.equal Op.maxDepth
  rw [show (10000 : Nat) = 9999 + 1 from rfl, run_equalIn_array (P := P) w 9999 (bytesV a) (bytesV b) hu hi0, List.range_eq_range', show (9999 : Nat) = 9998 + 1 from rfl,
    run_eqItems_bytes (P := P) w e he hc 9998 a b (by omega) n 0 (by omega)]
  simp
theorem run_equalIn_bytes (w : World) (t e : TypeId) (n : Nat) (hu : P.underlying t = some (.array n e)) (he : P.underlying e = some (.int .u8)) (hi : (P.info? e).map (fun i => (i.zero, i.size, i.bytes)) = some (some (.int .u8 0), 1, 1))
    (a b : List UInt8) (ha : a.length = n) (hb : b.length = n) : (Op.equalIn 10000 t (.agg (bytesV a)) (.agg (bytesV b))).run P w = .ok (a == b) w := run_equal_bytes (P := P) w t e n hu he hi a b ha hb
theorem run_eql_bytes (w : World) (t e : TypeId) (n : Nat) (hu : P.underlying t = some (.array n e)) (he : P.underlying e = some (.int .u8)) (hi : (P.info? e).map (fun i => (i.zero, i.size, i.bytes)) = some (some (.int .u8 0), 1, 1))
    (a b : List UInt8) (ha : a.length = n) (hb : b.length = n) : (binOp .eql t (.agg (bytesV a)) (.agg (bytesV b))).run P w = .ok (.bool (a == b)) w := by
  simp only [binOp]
  simp [run_equal_bytes (P := P) w t e n hu he hi a b ha hb]
theorem run_equalIn_self (w : World) (t e : TypeId) (n : Nat) (hu : P.underlying t = some (.array n e)) (he : P.underlying e = some (.int .u8)) (hi : (P.info? e).map (fun i => (i.zero, i.size, i.bytes)) = some (some (.int .u8 0), 1, 1))
    (a : List UInt8) (ha : a.length = n) : (Op.equalIn 10000 t (.agg (bytesV a)) (.agg (bytesV a))).run P w = .ok true w := by
  rw [run_equalIn_bytes (P := P) w t e n hu he hi a a ha ha]; simp
end Go.Proofs.YtfaeigbfnjkojaaGreatDoor.Cv
