/- Both ends' secret; two-fold arrays compared; an Exchange's parts stored. -/
import Derived.Test.YtfaeigbfnjkojaaGreatDoorFeL
import Derived.Test.YtfaeigbfnjkojaaGreatDoorKxHb
import Derived.Test.YtfaeigbfnjkojaaGreatDoorKxHd
import Derived.Test.YtfaeigbfnjkojaaGreatDoorKxY
import Derived.Test.YtfaeigbfnjkojaaGreatDoorKxHo
set_option linter.unusedVariables false
set_option linter.unusedSimpArgs false
namespace Go.Proofs.YtfaeigbfnjkojaaGreatDoor.Kx
open Go.RowKit Go.Proofs.YtfaeigbfnjkojaaGreatDoor.Cl Go.Proofs.YtfaeigbfnjkojaaGreatDoor.Ed
/-- both ends reckon one secret -/
theorem nine_f : (ofB (kB 9)).f = uo base := by rw [uo_base]; decide +kernel
theorem base_f {k : List UInt8} (hk : k.length = 32) : tid (mulK k (kB 9)) ∧ (mulK k (kB 9)).f = uo (Pt.mul (kN k) base) := mulK_f ord_base base_ne hk nine_f
theorem ofB_f2 {x : E} (h : tid x) : (ofB (bytesE x)).f = x.f := by
  rw [ofB_bytesE]
  unfold E.f
  rw [least_go h, fe_of]
  rfl
theorem kN_ne {k : List UInt8} (hk : k.length = 32) : ¬ L ∣ kN k := by
  have h := kN_range k hk
  exact not_dvd h.1 h.2.1 h.2.2
theorem mul_ne_zero {n : Nat} (h : ¬ L ∣ n) : Pt.mul n base ≠ Pt.zero := fun h0 => base_ne (Pt.order Nt.pr_l ord_base h0 h)
theorem mul_ord (n : Nat) : Pt.mul L (Pt.mul n base) = Pt.zero := by rw [Pt.mul_swap, ord_base, Pt.mul_zero]
theorem two_f {a b : List UInt8} (ha : a.length = 32) (hb : b.length = 32) : tid (mulK a (bytesE (mulK b (kB 9)))) ∧ (mulK a (bytesE (mulK b (kB 9)))).f = uo (Pt.mul (kN a) (Pt.mul (kN b) base)) := by
  obtain ⟨h1, h2⟩ := base_f hb
  exact mulK_f (mul_ord _) (mul_ne_zero (kN_ne hb)) ha ((ofB_f2 h1).trans h2)
theorem two_same {a b : List UInt8} (ha : a.length = 32) (hb : b.length = 32) : bytesE (mulK a (bytesE (mulK b (kB 9)))) = bytesE (mulK b (bytesE (mulK a (kB 9)))) := by
  obtain ⟨h1, h2⟩ := two_f ha hb
  obtain ⟨h3, h4⟩ := two_f hb ha
  rw [bytes_f h1, bytes_f h3, h2, h4, Pt.mul_swap]
theorem two_some {a b : List UInt8} (ha : a.length = 32) (hb : b.length = 32) : zero (mulK a (bytesE (mulK b (kB 9)))) = false := by
  obtain ⟨h1, h2⟩ := two_f ha hb
  rw [zero_go h1, h2, decide_eq_false_iff_not, ← Pt.mul_mul]
  refine Pt.uo_ne (mul_ord _) (mul_ne_zero (pr_dvd Nt.pr_l (kN_ne ha) (kN_ne hb)))
/-- two-fold arrays -/
theorem run_equalIn_bytes_d (P : Program) (d : Nat) (w : World) (t e : TypeId) (n : Nat) (hu : P.underlying t = some (.array n e)) (he : P.underlying e = some (.int .u8)) (hi : (P.info? e).map (fun i => (i.zero, i.size, i.bytes)) = some (some (.int .u8 0), 1, 1))
    (a b : List UInt8) (ha : a.length = n) (hb : b.length = n) : (Op.equalIn (d + 2) t (.agg (Cv.bytesV a)) (.agg (Cv.bytesV b))).run P w = .ok (a == b) w := by
  obtain ⟨i, hi0, hz0, hz1, hz2⟩ := info_parts hi
  rw [run_equalIn_array (P := P) w (d + 1) (Cv.bytesV a) (Cv.bytesV b) hu hi0, List.range_eq_range', Cv.run_eqItems_bytes (P := P) w e he (by unfold Program.cellsOf; simp [hi0, hz1]) d a b (by omega) n 0 (by omega)]
  simp
theorem part_row (P : Program) (w : World) (t e : TypeId) (n : Nat) (i : TypeInfo) (hu : P.underlying t = some (.array n e)) (hi : P.info? t = some i) (cs : Array Value) (off : Nat) : (part t cs off).run P w = .ok (.agg (cs.extract off (off + P.cellsOf t))) w := by
  unfold part isAgg
  simp [Sem.run_bind, run_underlying hu, run_sizeOf w hi]
theorem bytesV_left (a b : List UInt8) : (Cv.bytesV (a ++ b)).extract 0 a.length = Cv.bytesV a := by
  unfold Cv.bytesV
  apply Array.toList_inj.1
  simp [Lib.byteCells]
theorem bytesV_right (a b : List UInt8) : (Cv.bytesV (a ++ b)).extract a.length (a.length + b.length) = Cv.bytesV b := by
  unfold Cv.bytesV
  apply Array.toList_inj.1
  simp [Lib.byteCells]
  rw [List.take_of_length_le (by simp)]
theorem run_equalIn_two (P : Program) (w : World) (T t e : TypeId) (hT : P.underlying T = some (.array 2 t)) (hu : P.underlying t = some (.array 32 e)) (he : P.underlying e = some (.int .u8)) (hi : (P.info? e).map (fun i => (i.zero, i.size, i.bytes)) = some (some (.int .u8 0), 1, 1))
    (ht : (P.info? t).map (·.size) = some 32) (a b : List UInt8) (ha : a.length = 32) (hb : b.length = 32) : (Op.equalIn 10000 T (.agg (Cv.bytesV (a ++ b))) (.agg (Cv.bytesV (a ++ b)))).run P w = .ok true w := by
  cases hq : P.info? t with
  | none => rw [hq] at ht; cases ht
  | some i =>
    rw [hq] at ht
    have hs : i.size = 32 := by simpa using ht
    have hc : P.cellsOf t = 32 := by unfold Program.cellsOf; simp [hq, hs]
    have e1 := bytesV_left a b
    have e2 := bytesV_right a b
    rw [ha] at e1 e2
    rw [hb] at e2
    rw [show (10000 : Nat) = 9999 + 1 from rfl, run_equalIn_array (P := P) w 9999 _ _ hT hq, hc]
    simp only [List.range, List.range.loop, Op.eqItems, Sem.run_bind, part_row P w t e 32 i hu hq, Result.andThen_ok, Nat.zero_mul, Nat.one_mul, Nat.zero_add, hc, e1, e2]
    rw [show (9999 : Nat) = 9997 + 2 from rfl, run_equalIn_bytes_d P 9997 w t e 32 hu he hi a a ha ha]
    simp only [beq_self_eq_true, Result.andThen_ok, Bool.not_true, Bool.false_eq_true, if_false, Sem.run_bind, part_row P w t e 32 i hu hq, hc, e2]
    rw [run_equalIn_bytes_d P 9997 w t e 32 hu he hi b b hb hb]
    simp
/-- bytes stored into an Exchange -/
theorem exV_set (x : Xc) (p : List UInt8) (j : Nat) (b : UInt8) : (exV x p).setIfInBounds (5 + j) (.int .u8 (b.toNat : Int)) = exV x (p.set j b) := by
  rw [exV_eq, exV_eq]
  apply Array.toList_inj.1
  have : 5 + j = j + 1 + 1 + 1 + 1 + 1 := by omega
  simp [Xc.t, Lib.byteCells, this, List.map_set]
theorem setCells_ex {b T : Nat} {x : Xc} : ∀ (d l : List UInt8) (o : Nat) (w : World), Rg.Blk w b T (exV x l) → Rg.Blk (w.setCells b (5 + o) (Lib.byteCells d)) b T (exV x (putL l o d)) ∧ w.grownBy (w.setCells b (5 + o) (Lib.byteCells d)) (some b)
  | [], l, o, w, h => ⟨h, ⟨rfl, rfl, rfl, Nat.le_refl _, fun _ _ _ => rfl⟩⟩
  | y :: r, l, o, w, h => by
    have h1 : Rg.Blk (w.setCell ⟨b, 5 + o, none⟩ (.int .u8 (y.toNat : Int))) b T (exV x (l.set o y)) := by
      have h2 := h
      unfold Rg.Blk at *
      rw [heap_setCell_same w b (5 + o) _ _ _ h2, exV_set]
    have h3 := setCells_ex r (l.set o y) (o + 1) _ h1
    exact ⟨h3.1, (grown_setCell w b (5 + o) _).trans h3.2⟩
theorem exV_at (x : Xc) (p : List UInt8) (j : Nat) (h : j < p.length) : ∃ v, (exV x p)[5 + j]? = some v := by
  have : 5 + j < (exV x p).size := by rw [exV_size]; omega
  exact ⟨_, Array.getElem?_eq_getElem this⟩
/-- the operation, in a drawn region -/
theorem store_ex_op {P : Program} {o : Oper} {a : Act} {w : World} {K : Act → World → Prop} {Q : Exit → Act → World → Prop} (ty : TypeId) (z y : Operand) (ho : o.op = .store ty z y)
    (b off T : Nat) (x : Xc) (l d : List UInt8) (hx : a.eval z = .pointer (some ⟨b, 5 + off, none⟩)) (hy : a.eval y = .agg (Cv.bytesV d)) (hB : Rg.Blk w b T (exV x l)) (hl : off + d.length ≤ l.length) (hi : (P.info? ty).map (·.size) = some d.length)
    (h : ∀ X, Rg.Blk X b T (exV x (putL l off d)) → w.grownBy X (some b) → K (a.put o.dst undef) X) : o.wp P a w K Q := by
  have hs : (Cv.bytesV d).size = d.length := Cv.bytesV_size d
  have h3 := setCells_ex (T := T) d l off w hB
  have e : (Cv.bytesV d).toList = Lib.byteCells d := by unfold Cv.bytesV; rfl
  refine wp_store_mid ty z y ho b (5 + off) (Cv.bytesV d) hx hy (fun j hj => ?_) (by rw [hs]; exact hi) (Cv.bytesV_one d) (by rw [e]; exact h _ h3.1 h3.2)
  rw [hs] at hj
  obtain ⟨v, hv⟩ := exV_at x l (off + j) (by omega)
  rw [Nat.add_assoc]
  exact ⟨by rw [hB.cell (5 + (off + j)) hv]; rfl, hB.frozen _⟩
theorem foldl_set : ∀ (vs : List Value) (L : Array Value) (o k : Nat), o + k + vs.length ≤ L.size →
    (vs.zipIdx k).foldl (fun (cs : Array Value) (x : Value × Nat) => cs.setIfInBounds (o + x.2) x.1) L = (L.toList.take (o + k) ++ vs ++ L.toList.drop (o + k + vs.length)).toArray
  | [], L, o, k, h => by simp
  | v :: r, L, o, k, h => by
    rw [List.length_cons] at h
    rw [List.zipIdx_cons, List.foldl_cons, foldl_set r _ o (k + 1) (by rw [Array.size_setIfInBounds]; omega)]
    congr 1
    have hl : o + k < L.toList.length := by rw [Array.length_toList]; omega
    rw [Array.toList_setIfInBounds, List.length_cons, show o + (k + 1) = o + k + 1 by omega, List.drop_set_of_lt (by omega), show o + k + 1 + r.length = o + k + (r.length + 1) by omega]
    congr 1
    rw [List.take_add_one, List.getElem?_set_self hl, Option.toList_some, List.take_set_of_le (Nat.le_refl _)]
    simp
theorem fill_one (place : Nat → Option (Nat × Nat)) (cells vs : Array Value) (i off size : Nat) (rest : List (Nat × Value)) (hp : place i = some (off, size)) (hs : vs.size = size) (hc : off + size ≤ cells.size) :
    Instr.fill place cells ((i, .agg vs) :: rest) = Instr.fill place (cells.toList.take off ++ vs.toList ++ cells.toList.drop (off + vs.size)).toArray rest := by
  conv => lhs; unfold Instr.fill
  rw [hp]
  show (if (decide (vs.size ≠ size) || decide (off + vs.size > cells.size)) = true then none else Instr.fill place (vs.zipIdx.foldl (fun (cs : Array Value) (x : Value × Nat) => cs.setIfInBounds (off + x.2) x.1) cells) rest) = _
  have hb : (decide (vs.size ≠ size) || decide (off + vs.size > cells.size)) = false := by simp [hs]; omega
  rw [hb]
  have h := foldl_set vs.toList cells off 0 (by rw [Nat.add_zero, Array.length_toList]; omega)
  rw [Nat.add_zero, Array.length_toList] at h
  rw [← h, ← Array.toList_zipIdx, Array.foldl_toList]
  simp
theorem built_two (a b : List UInt8) (ha : a.length = 32) (hb : b.length = 32) : Tryz.prog.built 33 [(0, .agg (Cv.bytesV a)), (1, .agg (Cv.bytesV b))] = some (Cv.bytesV (a ++ b)) := by
  have e : Tryz.prog.built 33 [(0, .agg (Cv.bytesV a)), (1, .agg (Cv.bytesV b))] = Instr.fill (fun i => some (i * 32, 32)) Z64 [(0, .agg (Cv.bytesV a)), (1, .agg (Cv.bytesV b))] := by kernel_rfl
  have sa : (Cv.bytesV a).size = 32 := by rw [Cv.bytesV_size, ha]
  have sb : (Cv.bytesV b).size = 32 := by rw [Cv.bytesV_size, hb]
  rw [e, fill_one _ _ _ 0 0 32 _ rfl sa (by decide), fill_one _ _ _ 1 32 32 _ rfl sb (by simp [sa]; decide)]
  unfold Instr.fill
  refine congrArg some (Array.toList_inj.1 ?_)
  have la : (Cv.bytesV a).toList.length = 32 := by rw [Array.length_toList, sa]
  rw [sa, sb]
  have ez : Z64.size = 64 := rfl
  generalize Z64 = z at *
  simp only [List.take_zero, List.nil_append, Nat.zero_add]
  rw [List.take_append_of_le_length (by omega), List.take_of_length_le (by omega), List.drop_eq_nil_of_le (by simp [la]; omega), List.append_nil]
  unfold Cv.bytesV
  simp [Lib.byteCells]
end Go.Proofs.YtfaeigbfnjkojaaGreatDoor.Kx
