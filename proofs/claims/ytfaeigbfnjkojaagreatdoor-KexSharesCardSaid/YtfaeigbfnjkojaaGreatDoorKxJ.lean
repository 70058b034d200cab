/- The field's Zero. -/
import Derived.Test.YtfaeigbfnjkojaaGreatDoorKxI
import Derived.DeepKeys
set_option linter.unusedVariables false
set_option linter.unusedSimpArgs false
namespace Go.Proofs.YtfaeigbfnjkojaaGreatDoor.Kx
open Go.RowKit Go.Proofs.YtfaeigbfnjkojaaGreatDoor.Cl
theorem co_E : Tryz.prog.cellsOf 53 = 5 := by kernel_rfl
theorem co_A : Tryz.prog.cellsOf 51 = 5 := by kernel_rfl
theorem co_U : Tryz.prog.cellsOf 50 = 1 := by kernel_rfl
theorem wf_u {n : Nat} (h : n < M) : (Lit.int .u64 (n : Int)).wf = true := by
  unfold M at h
  simp [Lit.wf]
  rw [show IntKind.u64.min = 0 from by kernel_rfl, show IntKind.u64.max = 18446744073709551615 from by kernel_rfl]
  omega
theorem form_E (x : E) : (Value.agg (u64s x.l)).formed Tryz.prog 53 = true := by
  simp [Value.formed, Tryz.underlying53, co_E, u64s_size]
theorem lits_E (x : E) (h : x.ok) : Tryz.prog.keyLits 3 53 (Value.agg (u64s x.l)).cells.toList = some [.int .u64 x.a, .int .u64 x.b, .int .u64 x.c, .int .u64 x.d, .int .u64 x.e] := by
  have h0 := wf_u (h 0)
  have h1 := wf_u (h 1)
  have h2 := wf_u (h 2)
  have h3 := wf_u (h 3)
  have h4 := wf_u (h 4)
  simp only [nth, E.l, List.getD_cons_zero, List.getD_cons_succ] at h0 h1 h2 h3 h4
  simp [Program.keyLits, Tryz.underlying53, Tryz.underlying51, Tryz.underlying50, co_E, co_A, co_U, u64s, E.l, Value.cells, List.range, List.range.loop, h0, h1, h2, h3, h4]
theorem kt_E : Tryz.prog.keyTypeAt 3 53 = true := by kernel_rfl
theorem form_A (x : E) : (Value.agg (u64s x.l)).formed Tryz.prog 51 = true := by
  simp [Value.formed, Tryz.underlying51, co_A, u64s_size]
theorem lits_A (x : E) (h : x.ok) : Tryz.prog.keyLits 2 51 (Value.agg (u64s x.l)).cells.toList = some [.int .u64 x.a, .int .u64 x.b, .int .u64 x.c, .int .u64 x.d, .int .u64 x.e] := by
  have h0 := wf_u (h 0)
  have h1 := wf_u (h 1)
  have h2 := wf_u (h 2)
  have h3 := wf_u (h 3)
  have h4 := wf_u (h 4)
  simp only [nth, E.l, List.getD_cons_zero, List.getD_cons_succ] at h0 h1 h2 h3 h4
  simp [Program.keyLits, Tryz.underlying51, Tryz.underlying50, co_A, co_U, u64s, E.l, Value.cells, List.range, List.range.loop, h0, h1, h2, h3, h4]
theorem kt_A : Tryz.prog.keyTypeAt 2 51 = true := by kernel_rfl
theorem run_equalInA (w : World) (x y : E) (hx : x.ok) (hy : y.ok) : (Op.equalIn 9999 51 (.agg ((u64s x.l).extract 0 5)) (.agg (u64s y.l))).run Tryz.prog w = .ok (x == y) w := by
  rw [show (u64s x.l).extract 0 5 = u64s x.l from rfl]
  obtain ⟨r, hr, hi⟩ := run_equalIn_deep (P := Tryz.prog) 9997 2 51 kt_A w 2 2 _ _ _ _ (form_A x) (form_A y) (lits_A x hx) (lits_A y hy)
  have he : r = (x == y) := by
    rw [Bool.eq_iff_iff, hi, beq_iff_eq]
    cases x; cases y
    simp
    constructor
    · rintro ⟨h0, h1, h2, h3, h4⟩; refine ⟨?_, ?_, ?_, ?_, ?_⟩ <;> omega
    · rintro ⟨rfl, rfl, rfl, rfl, rfl⟩; exact ⟨rfl, rfl, rfl, rfl, rfl⟩
  subst he
  exact hr
theorem run_eqlE (w : World) (x y : E) (hx : x.ok) (hy : y.ok) : (binOp .eql 53 (.agg (u64s x.l)) (.agg (u64s y.l))).run Tryz.prog w = .ok (.bool (x == y)) w := by
  obtain ⟨r, hr, hi⟩ := run_equalIn_deep (P := Tryz.prog) 9997 3 53 kt_E w 3 3 _ _ _ _ (form_E x) (form_E y) (lits_E x hx) (lits_E y hy)
  have he : r = (x == y) := by
    rw [Bool.eq_iff_iff, hi, beq_iff_eq]
    cases x; cases y
    simp
    constructor
    · rintro ⟨h0, h1, h2, h3, h4⟩; refine ⟨?_, ?_, ?_, ?_, ?_⟩ <;> omega
    · rintro ⟨rfl, rfl, rfl, rfl, rfl⟩; exact ⟨rfl, rfl, rfl, rfl, rfl⟩
  subst he
  simp only [binOp]
  have hr2 : (Op.equal 53 (.agg (u64s x.l)) (.agg (u64s y.l))).run Tryz.prog w = .ok (x == y) w := hr
  simp [hr2]
theorem least_ok (x : E) : (least x).ok := fun j => Nat.lt_trans (least_fit x j) W_lt_M
theorem zero_ok : E.ok ⟨0, 0, 0, 0, 0⟩ := E.ok5 (by decide) (by decide) (by decide) (by decide) (by decide)
set_option maxRecDepth 20000 in
set_option maxHeartbeats 2000000 in
theorem Zero_any (w : World) (x : E) : Calls Tryz.prog 27 #[.agg (u64s x.l)] w fun e w' => e = .returned (.bool (zero x)) ∧ Below w.heap.size w w' := by
  have HEQ := Lib.hid (fun W => show (Op.equalIn 9999 51 (.agg ((u64s (least x).l).extract 0 5)) (.agg #[.int .u64 0, .int .u64 0, .int .u64 0, .int .u64 0, .int .u64 0])).run Tryz.prog W = .ok (zero x) W from run_equalInA W (least x) ⟨0, 0, 0, 0, 0⟩ (least_ok x) zero_ok)
  cases hzx : zero x
  all_goals
   rw [hzx] at HEQ
   clear hzx
   go_enter Tryz.func27, Tryz.ntmps27
   go_upto_region 1 with ((with_reducible refine gate_ ?_); refine Rg.box_fresh rfl 53 _ rfl (u64s x.l) rfl ?_; intro X hX hbX hnX; have HX := Lib.hid hX; have HBX := Lib.hid hbX; clear hX hbX hnX)
   go_wp2_with (first
     | ((with_reducible refine gate_ ?_); refine Cv.load_cells rfl 53 _ rfl w.heap.size 0 rfl (u64s x.l) _ (fun j v hv => by rw [Nat.zero_add]; exact Rg.Blk.cell HX.out j hv) Tryz.underlying53 rfl (by rw [u64s_size]; kernel_rfl) ?_; skip)
     | (go_at_call 48; refine (least_any _ x).mono ?_; rintro e w9 ⟨rfl, hb9⟩; skip; have heq := HEQ.out w9; have HB9 := Lib.hid (HBX.out.trans (hb9.mono HBX.out.size)); clear hb9)
     | (simp only [HEQ.out]))
   go_ret
   exact ⟨rfl, HB9.out⟩
end Go.Proofs.YtfaeigbfnjkojaaGreatDoor.Kx
