/- message.find, Fields, Name: against the table of kinds. -/
import Derived.Test.YtjfikbnfabdkoaaDoorMsgSpec2
import Derived.Test.YtjfikbnfabdkoaaDoorGen
import Derived.Test.YtjfikbnfabdkoaaDoorApiCode
set_option linter.unusedVariables false
set_option linter.unusedSimpArgs false
namespace Go.Proofs.YtjfikbnfabdkoaaDoor.Mg
open Go.RowKit Go.Proofs.YtjfikbnfabdkoaaDoor.Wi Go.Proofs.YtjfikbnfabdkoaaDoor.Ow Go.Proofs.YtjfikbnfabdkoaaDoor.Be
theorem run_index_agg {P : Program} (w : World) (xT E : TypeId) (n sz : Nat) (cs : Array Value) (k : Nat) (d : TypeDesc) (hu : P.underlying xT = some (.array n E)) (hi : (P.info? E).map (·.size) = some sz) (hE : P.underlying E = some d) (hd : (match d with | .struct _ | .array _ _ => true | _ => false) = true) (hk : k < n) :
    (Instr.index xT (.agg cs) (.int .i64 k)).run P w = .ok (.agg (cs.extract (k * sz) (k * sz + sz))) w := by
  cases hq : P.info? E with
  | none => simp [hq] at hi
  | some i =>
    have hs : i.size = sz := by simpa [hq] using hi
    have hagg : (isAgg E).run P w = .ok true w := by
      unfold isAgg
      rw [Sem.run_bind, run_underlying hE w]
      cases d <;> simp_all
    unfold Instr.index
    simp [asIntOf, Sem.run_bind, run_underlying hu, sizeOf, typeInfo, hq, hs, part, hagg, hk]
def rowC (r : Nat × List UInt8 × List UInt8) : List Value := [.int .i64 (r.1 : Int), .string (mkS r.2.1), .string (mkS r.2.2)]
@[irreducible] def rowsV : Array Value := (rowsL.flatMap rowC).toArray
theorem rowsV_size : rowsV.size = 87 := by unfold rowsV; rfl
theorem rowsV_at : ∀ (k : Nat), k < 29 → ∃ r, rowsL[k]? = some r ∧ rowsV.extract (k * 3) (k * 3 + 3) = #[.int .i64 (r.1 : Int), .string (mkS r.2.1), .string (mkS r.2.2)]
  | 0, _ => ⟨_, rfl, by unfold rowsV; rfl⟩
  | 1, _ => ⟨_, rfl, by unfold rowsV; rfl⟩
  | 2, _ => ⟨_, rfl, by unfold rowsV; rfl⟩
  | 3, _ => ⟨_, rfl, by unfold rowsV; rfl⟩
  | 4, _ => ⟨_, rfl, by unfold rowsV; rfl⟩
  | 5, _ => ⟨_, rfl, by unfold rowsV; rfl⟩
  | 6, _ => ⟨_, rfl, by unfold rowsV; rfl⟩
  | 7, _ => ⟨_, rfl, by unfold rowsV; rfl⟩
  | 8, _ => ⟨_, rfl, by unfold rowsV; rfl⟩
  | 9, _ => ⟨_, rfl, by unfold rowsV; rfl⟩
  | 10, _ => ⟨_, rfl, by unfold rowsV; rfl⟩
  | 11, _ => ⟨_, rfl, by unfold rowsV; rfl⟩
  | 12, _ => ⟨_, rfl, by unfold rowsV; rfl⟩
  | 13, _ => ⟨_, rfl, by unfold rowsV; rfl⟩
  | 14, _ => ⟨_, rfl, by unfold rowsV; rfl⟩
  | 15, _ => ⟨_, rfl, by unfold rowsV; rfl⟩
  | 16, _ => ⟨_, rfl, by unfold rowsV; rfl⟩
  | 17, _ => ⟨_, rfl, by unfold rowsV; rfl⟩
  | 18, _ => ⟨_, rfl, by unfold rowsV; rfl⟩
  | 19, _ => ⟨_, rfl, by unfold rowsV; rfl⟩
  | 20, _ => ⟨_, rfl, by unfold rowsV; rfl⟩
  | 21, _ => ⟨_, rfl, by unfold rowsV; rfl⟩
  | 22, _ => ⟨_, rfl, by unfold rowsV; rfl⟩
  | 23, _ => ⟨_, rfl, by unfold rowsV; rfl⟩
  | 24, _ => ⟨_, rfl, by unfold rowsV; rfl⟩
  | 25, _ => ⟨_, rfl, by unfold rowsV; rfl⟩
  | 26, _ => ⟨_, rfl, by unfold rowsV; rfl⟩
  | 27, _ => ⟨_, rfl, by unfold rowsV; rfl⟩
  | 28, _ => ⟨_, rfl, by unfold rowsV; rfl⟩
  | n + 29, h => absurd h (by omega)
/-- the table of kinds lies in memory -/
def TabR (w : World) : Prop := ∀ (j : Nat) (v : Value), rowsV[j]? = some v → w.cell? ⟨20, j, none⟩ = some v
theorem TabR.below {w w' : World} (h : TabR w) (hb : Below w.heap.size w w') : TabR w' := fun j v hv => (hb.cell (p := ⟨20, j, none⟩) (World.block_lt_of_cell? _ _ (h j v hv))).trans (h j v hv)
theorem TabR.alloc {w : World} (h : TabR w) (o : Obj) : TabR (w.alloc o) := h.below ((Below.refl _ _).alloc (Nat.le_refl _) o)
/-- the errors that a message's looks give -/
structure ErrsM (w : World) (a : Nat → Addr) : Prop where
  cell : ∀ k, (k < 4 ∨ k = 19) → w.cell? ⟨Ei.errG.getD k 0, 0, none⟩ = some (.iface 189 (.pointer (some (a (k + 1)))))
theorem ErrsM.below {w w' : World} {a : Nat → Addr} (h : ErrsM w a) (hb : Below w.heap.size w w') : ErrsM w' a := ⟨fun k hk => (hb.cell (World.block_lt_of_cell? w _ (h.cell k hk))).trans (h.cell k hk)⟩
theorem ErrsM.of {w : World} {a : Nat → Addr} (h : Ei.ErrsAll w a) : ErrsM w a := ⟨fun k hk => h.cell k (by omega)⟩
def rowZ (k : Int) : Array Value := match rowOf k with
  | some r => #[.int .i64 (r.1 : Int), .string (mkS r.2.1), .string (mkS r.2.2)]
  | none => #[.int .i64 0, .string ⟨#[]⟩, .string ⟨#[]⟩]
theorem rowOf_drop (k : Int) (j : Nat) (r : Nat × List UInt8 × List UInt8) (hr : rowsL[j]? = some r) (h : rowOf k = (rowsL.drop j).find? fun r => decide ((r.1 : Int) = k)) :
    ((r.1 : Int) = k → rowOf k = some r) ∧ ((r.1 : Int) ≠ k → rowOf k = (rowsL.drop (j + 1)).find? fun r => decide ((r.1 : Int) = k)) := by
  have hl : j < rowsL.length := (List.getElem?_eq_some_iff.1 hr).1
  have he : rowsL.drop j = r :: rowsL.drop (j + 1) := by
    rw [List.drop_eq_getElem_cons hl]
    congr 1
    exact (List.getElem?_eq_some_iff.1 hr).2
  rw [he, List.find?_cons] at h
  refine ⟨fun hk => ?_, fun hk => ?_⟩
  · rw [h]; simp [hk]
  · rw [h]; simp [hk]
set_option maxRecDepth 20000 in
set_option maxHeartbeats 1000000 in
theorem find_any (w : World) (k : Int) (hT : TabR w) :
    Calls Tryd.prog 39 #[.int .i64 k] w fun e w' => e = .returned (.tuple #[.agg (rowZ k), .bool (isK k)]) ∧ Below w.heap.size w w' := by
  have HT := Lib.hid hT
  clear hT
  go_enter Tryd.func39, Tryd.ntmps39
  go_wp2_with (refine Cv.load_cells rfl 132 _ rfl 20 0 rfl rowsV _ (fun j v hv => by rw [Nat.zero_add]; exact HT.out.alloc _ j v hv) Tryd.underlying132 rfl (by rw [rowsV_size]; kernel_rfl) ?_; skip)
  have hB2 : Rg.Blk (w.alloc (.cells #[.int .i64 0, .string ⟨#[]⟩, .string ⟨#[]⟩] 79)) w.heap.size 79 #[.int .i64 0, .string ⟨#[]⟩, .string ⟨#[]⟩] := Rg.Blk.new w _ _
  have hXW : Below w.heap.size w (w.alloc (.cells #[.int .i64 0, .string ⟨#[]⟩, .string ⟨#[]⟩] 79)) := (Below.refl _ _).alloc (Nat.le_refl _) _
  have hXZ : (w.alloc (.cells #[.int .i64 0, .string ⟨#[]⟩, .string ⟨#[]⟩] 79)).heap.size = w.heap.size + 1 := by simp
  generalize w.alloc (.cells #[.int .i64 0, .string ⟨#[]⟩, .string ⟨#[]⟩] 79) = X at *
  have HB2 := Lib.hid hB2
  have HXW := Lib.hid hXW
  have HXZ := Lib.hid hXZ
  clear hB2 hXW hXZ
  go_loopw [7] (fun i wr => ∃ j : Nat, j ≤ 29 ∧ i = .int .i64 j ∧ (rowOf k = (rowsL.drop j).find? fun r => decide ((r.1 : Int) = k)) ∧ Below X.heap.size X wr) (fun i _ => 30 - (intOf i).toNat)
  case atStart => exact ⟨0, by decide, rfl, rfl, Below.refl _ _⟩
  case round =>
    obtain ⟨j, hj, rfl, hrow, hb⟩ := hrel
    have HROW := Lib.hid hrow
    have HB := Lib.hid hb
    have hb2 := HB2.out.below hb HB2.out.lt
    have p0 := hb2.cell 0 (v := .int .i64 0) rfl
    have p1 := hb2.cell 1 (v := .string ⟨#[]⟩) rfl
    have p2 := hb2.cell 2 (v := .string ⟨#[]⟩) rfl
    have g0 := hb2.frozen 0
    have g1 := hb2.frozen 1
    have g2 := hb2.frozen 2
    have hz : w.heap.size < wr.heap.size := by have h1 := hb.size; have h2 := HXZ.out; omega
    have hzn : ¬ w.heap.size = wr.heap.size := by omega
    have HWR := Lib.hid (HXW.out.trans (hb.mono HXW.out.size))
    clear hrow hb hb2
    by_cases hj29 : j < 29
    · obtain ⟨r, hr, hex⟩ := rowsV_at j hj29
      have hidx := run_index_agg (P := Tryd.prog) wr 132 79 29 3 rowsV j _ Tryd.underlying132 (by kernel_rfl) Tryd.underlying79 rfl hj29
      rw [hex] at hidx
      have hways := rowOf_drop k j r hr HROW.out
      have hij : (j : Int) < 29 := by omega
      have hij0 : (0 : Int) ≤ j := by omega
      clear hex hr
      obtain ⟨kd, nm, lt⟩ := r
      simp only at hidx hways
      by_cases hk : (kd : Int) = k
      · have HF := Lib.hid (hways.1 hk)
        have hd : ((kd : Int) == k) = true := by simpa using hk
        have HK := Lib.hid hk
        clear hk hways
        go_wp2_with fail
        refine bodyPost_ret (v := .tuple #[.agg #[.int .i64 (kd : Int), .string (mkS nm), .string (mkS lt)], .bool true]) (by simp [results, Tryd.results39, go_sem, p0, p1, p2, hz, hzn]) rfl ?_
        refine ⟨?_, ?_⟩
        · unfold rowZ isK; rw [HF.out]; rfl
        refine Below.trans HWR.out ?_
        repeat (first | exact Below.refl _ _ | apply Below.drew | (refine Below.setCell ?_ ?_ _; rotate_left; focus (first | (simp; done) | (simp; omega) | omega)) | (refine Below.alloc ?_ ?_ _; rotate_left; focus (first | (simp; done) | (simp; omega) | omega)))
      · have HF := Lib.hid (hways.2 hk)
        have hd : ((kd : Int) == k) = false := by simpa using hk
        clear hk hways
        go_wp2_with fail
        go_roundw
        case rel =>
          have h9 : Below X.heap.size X _ := HB.out.alloc HB.out.size (.cells #[.int .i64 (kd : Int), .string (mkS nm), .string (mkS lt)] 79)
          first
            | exact ⟨j + 1, by omega, by go_num, HF.out, h9⟩
            | ((repeat apply Exists.intro); refine ⟨?_, rfl⟩; exact ⟨j + 1, by omega, by go_num, HF.out, h9⟩)
        case measure => simp [intOf]; omega
    · obtain rfl : j = 29 := by omega
      have HF := Lib.hid (show rowOf k = none from HROW.out)
      go_wp2_with fail
      refine bodyPost_ret (v := .tuple #[.agg #[.int .i64 0, .string ⟨#[]⟩, .string ⟨#[]⟩], .bool false]) (by simp [results, Tryd.results39, go_sem, p0, p1, p2, hz, hzn]) rfl ?_
      refine ⟨?_, ?_⟩
      · unfold rowZ isK; rw [HF.out]; rfl
      refine Below.trans HWR.out ?_
      repeat (first | exact Below.refl _ _ | apply Below.drew | (refine Below.setCell ?_ ?_ _; rotate_left; focus (first | (simp; done) | (simp; omega) | omega)) | (refine Below.alloc ?_ ?_ _; rotate_left; focus (first | (simp; done) | (simp; omega) | omega)))
end Go.Proofs.YtjfikbnfabdkoaaDoor.Mg
