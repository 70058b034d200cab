/- Exchange.Hash. -/
import Derived.Test.YtfaeigbfnjkojaaGreatDoorKxHa
set_option linter.unusedVariables false
set_option linter.unusedSimpArgs false
namespace Go.Proofs.YtfaeigbfnjkojaaGreatDoor.Kx
open Go.RowKit Go.Proofs.YtfaeigbfnjkojaaGreatDoor.Cl
def ls (x : Xc) : Nat → List UInt8
  | 0 => []
  | 1 => Wi.textL x.a.data.toList ++ Wi.textL x.b.data.toList
  | _ => Wi.textL x.a.data.toList ++ Wi.textL x.b.data.toList ++ Wi.textL x.c.data.toList ++ Wi.textL x.d.data.toList
def ps (l p q : List UInt8) : Nat → List UInt8
  | 0 => l
  | 1 => l ++ Wi.textL p
  | _ => l ++ Wi.textL p ++ Wi.textL q
theorem tx_len (s : ByteArray) : (Wi.textL s.data.toList).length = 4 + s.size := by unfold Wi.textL; rw [List.length_append, Be.be_length, Wi.len_list]
theorem tl_len (l : List UInt8) : (Wi.textL l).length = 4 + l.length := by unfold Wi.textL; rw [List.length_append, Be.be_length]
theorem idx_0 (a b c d : ByteArray) (W : World) : (Instr.index 76 (.agg #[.string a, .string b, .string c, .string d]) (.int .i64 0)).run Tryz.prog W = .ok (.agg #[.string a, .string b]) W := by kernel_rfl
theorem idx_1 (a b c d : ByteArray) (W : World) : (Instr.index 76 (.agg #[.string a, .string b, .string c, .string d]) (.int .i64 1)).run Tryz.prog W = .ok (.agg #[.string c, .string d]) W := by kernel_rfl
theorem bytes_ext0 (p q : List UInt8) (hp : p.length = 32) : (Cv.bytesV (p ++ q)).extract 0 32 = Cv.bytesV p := by
  unfold Cv.bytesV
  simp [Lib.byteCells, ← hp]
theorem bytes_ext1 (p q : List UInt8) (hp : p.length = 32) (hq : q.length = 32) : (Cv.bytesV (p ++ q)).extract 32 64 = Cv.bytesV q := by
  unfold Cv.bytesV
  simp [Lib.byteCells, ← hp]
  rw [List.take_of_length_le (by simp; omega)]
theorem idx_p (p q : List UInt8) (hp : p.length = 32) (hq : q.length = 32) (W : World) : (Instr.index 33 (.agg (Cv.bytesV (p ++ q))) (.int .i64 0)).run Tryz.prog W = .ok (.agg (Cv.bytesV p)) W := by
  have hi : (Tryz.prog.info? 22).map (·.size) = some 32 := by kernel_rfl
  cases hq2 : Tryz.prog.info? 22 with
  | none => simp [hq2] at hi
  | some i =>
  have hs : i.size = 32 := by simpa [hq2] using hi
  have h1 := bytes_ext0 p q hp
  have h2 : (Cv.bytesV (p ++ q)).size = 64 := by rw [Cv.bytesV_size, List.length_append, hp, hq]
  unfold Instr.index
  simp [go_sem, run_underlying Tryz.underlying33, run_underlying Tryz.underlying22, hq2, hs, sizeOf, typeInfo, part, isAgg, h1, h2]
theorem idx_q (p q : List UInt8) (hp : p.length = 32) (hq : q.length = 32) (W : World) : (Instr.index 33 (.agg (Cv.bytesV (p ++ q))) (.int .i64 1)).run Tryz.prog W = .ok (.agg (Cv.bytesV q)) W := by
  have hi : (Tryz.prog.info? 22).map (·.size) = some 32 := by kernel_rfl
  cases hq2 : Tryz.prog.info? 22 with
  | none => simp [hq2] at hi
  | some i =>
  have hs : i.size = 32 := by simpa [hq2] using hi
  have h1 := bytes_ext1 p q hp hq
  have h2 : (Cv.bytesV (p ++ q)).size = 64 := by rw [Cv.bytesV_size, List.length_append, hp, hq]
  unfold Instr.index
  simp [go_sem, run_underlying Tryz.underlying33, run_underlying Tryz.underlying22, hq2, hs, sizeOf, typeInfo, part, isAgg, h1, h2]
theorem parts_one (w : World) (T : TypeId) (a : ByteArray) : Jo.Parts (w.alloc (.cells #[.string a] T)) (.slice (some ⟨w.heap.size, 0, none⟩) 1 1) [a] := by
  refine .inr ⟨w.heap.size, 0, 1, rfl, fun j x hj => ?_, by simp, Nat.le_refl _⟩
  match j, hj with
  | 0, hj =>
    simp at hj
    subst hj
    exact (Rg.Blk.new w _ _).cell 0 rfl
theorem exl_0 {w : World} {b T : Nat} {x : Xc} {p : List UInt8} (h : Rg.Blk w b T (exV x p)) : ∀ (j : Nat) (v : Value), (#[.string x.a, .string x.b] : Array Value)[j]? = some v → w.cell? ⟨b, 0 + j, none⟩ = some v := fun j v hv => by
  match j, hv with
  | 0, hv => exact h.cell 0 ((exV_0 x p).trans hv)
  | 1, hv => exact h.cell 1 ((exV_1 x p).trans hv)
  | j + 2, hv => simp at hv
theorem exl_2 {w : World} {b T : Nat} {x : Xc} {p : List UInt8} (h : Rg.Blk w b T (exV x p)) : ∀ (j : Nat) (v : Value), (#[.string x.c, .string x.d] : Array Value)[j]? = some v → w.cell? ⟨b, 2 + j, none⟩ = some v := fun j v hv => by
  match j, hv with
  | 0, hv => exact h.cell 2 ((exV_2 x p).trans hv)
  | 1, hv => exact h.cell 3 ((exV_3 x p).trans hv)
  | j + 2, hv => simp at hv
/-- what an exchange's hash is of -/
def hsL (x : Xc) (p q s : List UInt8) : List UInt8 := ls x 2 ++ Wi.textL x.h.data.toList ++ Wi.textL p ++ Wi.textL q ++ Wi.textL (Wi.bigL s)
set_option maxRecDepth 20000 in
set_option maxHeartbeats 8000000 in
theorem Hash_any (w : World) (x : Xc) (p q s : List UInt8) (hp : p.length = 32) (hq : q.length = 32) (hs : s.length = 32) (hx : x.a.size ≤ 1000 ∧ x.b.size ≤ 1000 ∧ x.c.size ≤ 1000 ∧ x.d.size ≤ 1000 ∧ x.h.size ≤ 1000) (hT : Sha.Tables w) :
    Calls Tryz.prog 15 #[.agg (exV x (p ++ (q ++ s)))] w fun e w' => e = .returned (.agg (Cv.bytesV (Sha.sha 32 (hsL x p q s)))) ∧ Below w.heap.size w w' := by
  have HSZ := Lib.hid hx
  have HPL := Lib.hid hp
  have HQL := Lib.hid hq
  have HSL := Lib.hid hs
  have HT := Lib.hid hT
  have HTS := Lib.hid hT.size
  have HES := Lib.hid (show (exV x (p ++ (q ++ s))).size = 101 from by rw [exV_size, List.length_append, List.length_append, hp, hq, hs])
  clear hx hp hq hs hT
  go_enter Tryz.func15, Tryz.ntmps15
  go_upto_region 1 with ((with_reducible refine gate_ ?_); refine Rg.box_fresh rfl 40 _ rfl (exV x (p ++ (q ++ s))) rfl ?_; intro X hX hbX hnX; have HX := Lib.hid hX; have HBX := Lib.hid hbX; have HNX := Lib.hid hnX; clear hX hbX hnX)
  obtain ⟨xb, hxb⟩ : ∃ n, w.heap.size = n := ⟨_, rfl⟩
  obtain ⟨rb, hrb⟩ : ∃ n, X.heap.size = n := ⟨_, rfl⟩
  obtain ⟨X1, hX1⟩ : ∃ V, X.alloc (.cells (#[.int .u8 0, .int .u8 0, .int .u8 0, .int .u8 0, .int .u8 0, .int .u8 0, .int .u8 0, .int .u8 0, .int .u8 0, .int .u8 0, .int .u8 0, .int .u8 0, .int .u8 0, .int .u8 0, .int .u8 0, .int .u8 0, .int .u8 0, .int .u8 0, .int .u8 0, .int .u8 0, .int .u8 0, .int .u8 0, .int .u8 0, .int .u8 0, .int .u8 0, .int .u8 0, .int .u8 0, .int .u8 0, .int .u8 0, .int .u8 0, .int .u8 0, .int .u8 0] : Array Value) 22) = V := ⟨_, rfl⟩
  have HX1 := Lib.hid (show Rg.Blk X1 xb 40 (exV x (p ++ (q ++ s))) from hX1 ▸ (hxb ▸ HX.out).alloc _)
  have HZ1 := Lib.hid (show Rg.Blk X1 rb 22 (#[.int .u8 0, .int .u8 0, .int .u8 0, .int .u8 0, .int .u8 0, .int .u8 0, .int .u8 0, .int .u8 0, .int .u8 0, .int .u8 0, .int .u8 0, .int .u8 0, .int .u8 0, .int .u8 0, .int .u8 0, .int .u8 0, .int .u8 0, .int .u8 0, .int .u8 0, .int .u8 0, .int .u8 0, .int .u8 0, .int .u8 0, .int .u8 0, .int .u8 0, .int .u8 0, .int .u8 0, .int .u8 0, .int .u8 0, .int .u8 0, .int .u8 0, .int .u8 0] : Array Value) from hX1 ▸ Rg.Blk.newAt hrb.symm _ _)
  have HB1 := Lib.hid (show Below xb w X1 from hX1 ▸ hxb ▸ HBX.out.alloc HBX.out.size _)
  have HN1 := Lib.hid (show xb < rb ∧ rb + 1 = X1.heap.size from by rw [← hX1]; have h1 := HNX.out; constructor; omega; simp; omega)
  have HKB := Lib.hid hxb
  have HTX := Lib.hid (show 23 ≤ xb from by rw [← hxb]; exact HTS.out)
  try rw [hxb]
  try rw [hrb]
  rw [hX1]
  clear HX HBX HNX hxb hrb hX1 HTS
  obtain ⟨ob, hob⟩ : ∃ n, X1.heap.size = n := ⟨_, rfl⟩
  go_upto_region 2 with fail
  have HO := Lib.hid (show Wi.IsOut ob ob [] (X1.alloc (.cells #[.pointer none, .slice none 0 0] 69)) from hob ▸ Wi.outFresh X1)
  have HBY := Lib.hid (show Below ob X1 (X1.alloc (.cells #[.pointer none, .slice none 0 0] 69)) from hob ▸ (Below.refl _ _).alloc (Nat.le_refl _) _)
  have HYS := Lib.hid (show ob ≤ (X1.alloc (.cells #[.pointer none, .slice none 0 0] 69)).heap.size from by simp; rw [hob]; omega)
  have HN := Lib.hid (show xb < rb ∧ rb < ob from by have := HN1.out; omega)
  try rw [hob]
  generalize X1.alloc (.cells #[.pointer none, .slice none 0 0] 69) = Y at *
  clear hob HN1
  have HX := Lib.hid (HX1.out.below HBY.out (by have := HN.out; omega))
  have HZ := Lib.hid (HZ1.out.below HBY.out HN.out.2)
  have HT := Lib.hid ((HT.out.below HB1.out HTX.out).below HBY.out (by have := HN.out; have := HTX.out; omega))
  have HB0 := Lib.hid (HB1.out.trans (HBY.out.mono (by have := HN.out; omega)))
  have HTO := Lib.hid (show 23 ≤ ob from by have := HN.out; have := HTX.out; omega)
  clear HX1 HZ1 HB1 HBY
  go_upto_region 3 with (first
    | ((with_reducible refine gate_ ?_); refine Cv.load_cells rfl 38 _ rfl xb 0 rfl #[.string x.a, .string x.b] _ (exl_0 HX.out) Tryz.underlying38 rfl (by kernel_rfl) ?_; skip)
    | ((with_reducible refine gate_ ?_); refine Cv.load_cells rfl 38 _ rfl xb 2 rfl #[.string x.c, .string x.d] _ (exl_2 HX.out) Tryz.underlying38 rfl (by kernel_rfl) ?_; skip))
  go_loopw [13] (fun ii wr => ∃ k : Nat, k ≤ 2 ∧ ii = .int .i64 k ∧ Wi.IsOut ob ob (ls x k) wr ∧ Below ob Y wr) (fun ii _ => 2 - (intOf ii).toNat)
  case atStart => exact ⟨0, Nat.zero_le _, rfl, HO.out, Below.refl _ _⟩
  case round =>
    obtain ⟨k, hk, rfl, ho, h1⟩ := hrel
    clear HO
    have HB := Lib.hid h1
    clear h1
    have hk3 : k = 0 ∨ k = 1 ∨ k = 2 := by omega
    clear hk
    rcases hk3 with rfl | rfl | rfl
    · have HO := Lib.hid (show Wi.IsOut ob ob (ls x 0) wr from ho)
      have HLL := Lib.hid (show (ls x 0).length ≤ 100000 from by have := HSZ.out; have := tx_len x.a; have := tx_len x.b; simp [ls])
      clear ho
      obtain ⟨l0, hl0⟩ : ∃ l, ls x 0 = l := ⟨_, rfl⟩
      rw [hl0] at HO HLL
      have HIX := Lib.hid (fun W : World => idx_0 x.a x.b x.c x.d W)
      have hix := fun W => HIX.out W
      go_upto_region 5 with fail
      obtain ⟨bl, hbl⟩ : ∃ n, wr.heap.size = n := ⟨_, rfl⟩
      have HLB := Lib.hid (show Rg.Blk (wr.alloc (.cells #[.string x.a, .string x.b] 38)) bl 38 #[.string x.a, .string x.b] from Rg.Blk.newAt hbl.symm _ _)
      have HBL := Lib.hid (show Below ob Y (wr.alloc (.cells #[.string x.a, .string x.b] 38)) from HB.out.trans ((Below.refl _ _).alloc (Nat.le_trans HYS.out HB.out.size) _))
      have HNB := Lib.hid (show bl ≠ ob from by have := HO.out.lt; omega)
      have HO := Lib.hid (HO.out.below ((Below.refl _ _).alloc (Nat.le_refl _) (.cells #[.string x.a, .string x.b] 38)))
      try rw [hbl]
      generalize wr.alloc (.cells #[.string x.a, .string x.b] 38) = Y5 at *
      clear HB hix hbl
      refine RL.start (fun W => Below ob Y W ∧ Rg.Blk W bl 38 #[.string x.a, .string x.b]) (by kernel_rfl) (⟨Below.drew HBL.out, (HLB.out.below (Below.drew (Below.refl _ _)) HLB.out.lt)⟩) ?_
      refine' RL.takeV (i := 0) (v := _) rfl (by kernel_rfl) (by kernel_rfl) (by kernel_rfl) (fun _ _ _ h => h) (by rfl) ?hk21 ?_
      case hk21 => (intro W hSW; go_simp; try with_reducible rfl)
      (try simp only [Act.put, List.setIfInBounds_toArray, List.set_cons_zero, List.set_cons_succ])
      refine' RL.takeV (i := 1) (v := _) rfl (by kernel_rfl) (by kernel_rfl) (by kernel_rfl) (fun _ _ _ h => h) (by rfl) ?hk22 ?_
      case hk22 => (intro W hSW; have c1 := hSW.2.cell 0 (v := .string x.a) rfl; go_simp; try with_reducible rfl)
      (try simp only [Act.put, List.setIfInBounds_toArray, List.set_cons_zero, List.set_cons_succ])
      refine' RL.takeV (i := 3) (v := _) rfl (by kernel_rfl) (by kernel_rfl) (by kernel_rfl) (fun _ _ _ h => h) (by rfl) ?hk23 ?_
      case hk23 => (intro W hSW; go_simp; try with_reducible rfl)
      (try simp only [Act.put, List.setIfInBounds_toArray, List.set_cons_zero, List.set_cons_succ])
      refine' RL.takeV (i := 4) (v := _) rfl (by kernel_rfl) (by kernel_rfl) (by kernel_rfl) (fun _ _ _ h => h) (by rfl) ?hk24 ?_
      case hk24 => (intro W hSW; have c1 := hSW.2.cell 1 (v := .string x.b) rfl; go_simp; try with_reducible rfl)
      (try simp only [Act.put, List.setIfInBounds_toArray, List.set_cons_zero, List.set_cons_succ])
      refine' RL.stepCall (i := 2) 36 #[.pointer (some ⟨ob, 0, none⟩), .string x.a] rfl (by kernel_rfl) (by rfl) ?hv25 ?hc25
      case hv25 => (intro W; go_simp; try with_reducible rfl)
      intro wa hlwa hswa
      have hIO := (Wi.IsOut.below HO.out (Below.drew (Below.refl _ _))).below hlwa
      refine (Wi.Text_any ob ob _ x.a (by have := HSZ.out; omega) wa hIO (by have := HSZ.out; have := HLL.out; omega) (Nat.le_trans HYS.out (Below.size hswa.1))).mono ?_
      rintro e w1 ⟨rfl, h1, hc1⟩
      refine ⟨_, rfl, ⟨Below.trans hswa.1 hc1.below, hc1.kept bl _ _ _ hswa.2 (by decide) HNB.out⟩, ?_⟩
      (try simp only [Act.put, List.setIfInBounds_toArray, List.set_cons_zero, List.set_cons_succ])
      refine' RL.stepCall (i := 5) 36 #[.pointer (some ⟨ob, 0, none⟩), .string x.b] rfl (by kernel_rfl) (by rfl) ?hv26 ?hc26
      case hv26 => (intro W; go_simp; try with_reducible rfl)
      intro wb hlwb hswb
      have hIO := Wi.IsOut.below h1 hlwb
      refine (Wi.Text_any ob ob _ x.b (by have := HSZ.out; omega) wb hIO (by have := HSZ.out; have := HLL.out; have := tx_len x.a; rw [List.length_append]; omega) (Nat.le_trans HYS.out (Below.size hswb.1))).mono ?_
      rintro e w2 ⟨rfl, h2, hc2⟩
      refine ⟨_, rfl, ⟨Below.trans hswb.1 hc2.below, hc2.kept bl _ _ _ hswb.2 (by decide) HNB.out⟩, ?_⟩
      (try simp only [Act.put, List.setIfInBounds_toArray, List.set_cons_zero, List.set_cons_succ])
      refine RL.done (by kernel_rfl) (fun V hlV hsV => ?_)
      have HOV := Lib.hid (Wi.IsOut.below h2 hlV)
      have HBV := Lib.hid (show Below ob Y V from hsV.1)
      clear hlV hsV h2 hc2 hlwb hswb h1 hc1 hlwa hswa
      have HOV := Lib.hid (show Wi.IsOut ob ob (ls x 1) V from by rw [show ls x 1 = l0 ++ Wi.textL x.a.data.toList ++ Wi.textL x.b.data.toList from by rw [← hl0]; simp [ls]]; exact HOV.out)
      go_wp2_with fail
      go_roundw
      case rel =>
        have REL := Lib.hid (show ∃ k' : Nat, k' ≤ 2 ∧ Value.int .i64 1 = .int .i64 k' ∧ Wi.IsOut ob ob (ls x k') V ∧ Below ob Y V from ⟨1, by decide, rfl, HOV.out, HBV.out⟩)
        first
          | exact REL.out
          | ((repeat apply Exists.intro); refine ⟨?_, rfl⟩; exact REL.out)
      case measure => (first | (simp [intOf]; done) | (simp [intOf]; omega))
    · have HO := Lib.hid (show Wi.IsOut ob ob (ls x 1) wr from ho)
      have HLL := Lib.hid (show (ls x 1).length ≤ 100000 from by have := HSZ.out; have := tx_len x.a; have := tx_len x.b; simp only [ls, List.length_append]; simp; omega)
      clear ho
      obtain ⟨l0, hl0⟩ : ∃ l, ls x 1 = l := ⟨_, rfl⟩
      rw [hl0] at HO HLL
      have HIX := Lib.hid (fun W : World => idx_1 x.a x.b x.c x.d W)
      have hix := fun W => HIX.out W
      go_upto_region 5 with fail
      obtain ⟨bl, hbl⟩ : ∃ n, wr.heap.size = n := ⟨_, rfl⟩
      have HLB := Lib.hid (show Rg.Blk (wr.alloc (.cells #[.string x.c, .string x.d] 38)) bl 38 #[.string x.c, .string x.d] from Rg.Blk.newAt hbl.symm _ _)
      have HBL := Lib.hid (show Below ob Y (wr.alloc (.cells #[.string x.c, .string x.d] 38)) from HB.out.trans ((Below.refl _ _).alloc (Nat.le_trans HYS.out HB.out.size) _))
      have HNB := Lib.hid (show bl ≠ ob from by have := HO.out.lt; omega)
      have HO := Lib.hid (HO.out.below ((Below.refl _ _).alloc (Nat.le_refl _) (.cells #[.string x.c, .string x.d] 38)))
      try rw [hbl]
      generalize wr.alloc (.cells #[.string x.c, .string x.d] 38) = Y5 at *
      clear HB hix hbl
      refine RL.start (fun W => Below ob Y W ∧ Rg.Blk W bl 38 #[.string x.c, .string x.d]) (by kernel_rfl) (⟨Below.drew HBL.out, (HLB.out.below (Below.drew (Below.refl _ _)) HLB.out.lt)⟩) ?_
      refine' RL.takeV (i := 0) (v := _) rfl (by kernel_rfl) (by kernel_rfl) (by kernel_rfl) (fun _ _ _ h => h) (by rfl) ?hk27 ?_
      case hk27 => (intro W hSW; go_simp; try with_reducible rfl)
      (try simp only [Act.put, List.setIfInBounds_toArray, List.set_cons_zero, List.set_cons_succ])
      refine' RL.takeV (i := 1) (v := _) rfl (by kernel_rfl) (by kernel_rfl) (by kernel_rfl) (fun _ _ _ h => h) (by rfl) ?hk28 ?_
      case hk28 => (intro W hSW; have c1 := hSW.2.cell 0 (v := .string x.c) rfl; go_simp; try with_reducible rfl)
      (try simp only [Act.put, List.setIfInBounds_toArray, List.set_cons_zero, List.set_cons_succ])
      refine' RL.takeV (i := 3) (v := _) rfl (by kernel_rfl) (by kernel_rfl) (by kernel_rfl) (fun _ _ _ h => h) (by rfl) ?hk29 ?_
      case hk29 => (intro W hSW; go_simp; try with_reducible rfl)
      (try simp only [Act.put, List.setIfInBounds_toArray, List.set_cons_zero, List.set_cons_succ])
      refine' RL.takeV (i := 4) (v := _) rfl (by kernel_rfl) (by kernel_rfl) (by kernel_rfl) (fun _ _ _ h => h) (by rfl) ?hk30 ?_
      case hk30 => (intro W hSW; have c1 := hSW.2.cell 1 (v := .string x.d) rfl; go_simp; try with_reducible rfl)
      (try simp only [Act.put, List.setIfInBounds_toArray, List.set_cons_zero, List.set_cons_succ])
      refine' RL.stepCall (i := 2) 36 #[.pointer (some ⟨ob, 0, none⟩), .string x.c] rfl (by kernel_rfl) (by rfl) ?hv31 ?hc31
      case hv31 => (intro W; go_simp; try with_reducible rfl)
      intro wa hlwa hswa
      have hIO := (Wi.IsOut.below HO.out (Below.drew (Below.refl _ _))).below hlwa
      refine (Wi.Text_any ob ob _ x.c (by have := HSZ.out; omega) wa hIO (by have := HSZ.out; have := HLL.out; omega) (Nat.le_trans HYS.out (Below.size hswa.1))).mono ?_
      rintro e w1 ⟨rfl, h1, hc1⟩
      refine ⟨_, rfl, ⟨Below.trans hswa.1 hc1.below, hc1.kept bl _ _ _ hswa.2 (by decide) HNB.out⟩, ?_⟩
      (try simp only [Act.put, List.setIfInBounds_toArray, List.set_cons_zero, List.set_cons_succ])
      refine' RL.stepCall (i := 5) 36 #[.pointer (some ⟨ob, 0, none⟩), .string x.d] rfl (by kernel_rfl) (by rfl) ?hv32 ?hc32
      case hv32 => (intro W; go_simp; try with_reducible rfl)
      intro wb hlwb hswb
      have hIO := Wi.IsOut.below h1 hlwb
      refine (Wi.Text_any ob ob _ x.d (by have := HSZ.out; omega) wb hIO (by have := HSZ.out; have := HLL.out; have := tx_len x.c; rw [List.length_append]; omega) (Nat.le_trans HYS.out (Below.size hswb.1))).mono ?_
      rintro e w2 ⟨rfl, h2, hc2⟩
      refine ⟨_, rfl, ⟨Below.trans hswb.1 hc2.below, hc2.kept bl _ _ _ hswb.2 (by decide) HNB.out⟩, ?_⟩
      (try simp only [Act.put, List.setIfInBounds_toArray, List.set_cons_zero, List.set_cons_succ])
      refine RL.done (by kernel_rfl) (fun V hlV hsV => ?_)
      have HOV := Lib.hid (Wi.IsOut.below h2 hlV)
      have HBV := Lib.hid (show Below ob Y V from hsV.1)
      clear hlV hsV h2 hc2 hlwb hswb h1 hc1 hlwa hswa
      have HOV := Lib.hid (show Wi.IsOut ob ob (ls x 2) V from by rw [show ls x 2 = l0 ++ Wi.textL x.c.data.toList ++ Wi.textL x.d.data.toList from by rw [← hl0]; simp [ls]]; exact HOV.out)
      go_wp2_with fail
      go_roundw
      case rel =>
        have REL := Lib.hid (show ∃ k' : Nat, k' ≤ 2 ∧ Value.int .i64 2 = .int .i64 k' ∧ Wi.IsOut ob ob (ls x k') V ∧ Below ob Y V from ⟨2, by decide, rfl, HOV.out, HBV.out⟩)
        first
          | exact REL.out
          | ((repeat apply Exists.intro); refine ⟨?_, rfl⟩; exact REL.out)
      case measure => (first | (simp [intOf]; done) | (simp [intOf]; omega))
    · have HO := Lib.hid (show Wi.IsOut ob ob (ls x 2) wr from ho)
      clear ho
      have HLL := Lib.hid (show (ls x 2).length ≤ 10000 from by have := HSZ.out; have := tx_len x.a; have := tx_len x.b; have := tx_len x.c; have := tx_len x.d; simp only [ls, List.length_append]; omega)
      obtain ⟨l0, hl0⟩ : ∃ l, ls x 2 = l := ⟨_, rfl⟩
      have HRES := Lib.hid (show hsL x p q s = l0 ++ Wi.textL x.h.data.toList ++ Wi.textL p ++ Wi.textL q ++ Wi.textL (Wi.bigL s) from by rw [← hl0]; rfl)
      rw [hl0] at HO HLL
      clear hl0
      have HXw := Lib.hid (HX.out.below HB.out (by have := HN.out; omega))
      have c4 := HXw.out.cell 4 (v := .string x.h) (exV_4 _ _)
      go_upto_region 8 with (go_at_call 36; refine (Wi.Text_any ob ob _ x.h (by have := HSZ.out; omega) _ HO.out (by have := HSZ.out; have := HLL.out; omega) (Nat.le_trans HYS.out HB.out.size)).mono ?_; rintro e w7 ⟨rfl, h7, hc7⟩; skip; have HO7 := Lib.hid h7; have HB7 := Lib.hid (HB.out.trans hc7.below); clear h7 hc7)
      clear c4
      have HX7 := Lib.hid (HX.out.below HB7.out (by have := HN.out; omega))
      have HPQ := Lib.hid (show (Cv.bytesV (p ++ q)).size = 64 from by rw [Cv.bytesV_size, List.length_append, HPL.out, HQL.out])
      have HXB := Lib.hid (show Cv.Bytes w7 xb 5 (p ++ q) from bytes_take (q := s) (by rw [List.append_assoc]; exact exV_bytes HX7.out))
      go_upto_region 9 with ((with_reducible refine gate_ ?_); refine Cv.load_cells rfl 33 _ rfl xb 5 rfl (Cv.bytesV (p ++ q)) _ HXB.out.cells Tryz.underlying33 rfl (by rw [HPQ.out]; kernel_rfl) ?_; skip)
      obtain ⟨l7, hl7⟩ : ∃ l, l0 ++ Wi.textL x.h.data.toList = l := ⟨_, rfl⟩
      have HL7 := Lib.hid (show l7.length ≤ 12000 from by rw [← hl7, List.length_append, tx_len]; have := HSZ.out; have := HLL.out; omega)
      rw [hl7] at HO7 HRES
      clear hl7 HLL HO HB HXw HXB HX7
      go_loopw [28] (fun ii wr => ∃ k : Nat, k ≤ 2 ∧ ii = .int .i64 k ∧ Wi.IsOut ob ob (ps l7 p q k) wr ∧ Below ob Y wr) (fun ii _ => 2 - (intOf ii).toNat)
      case atStart => exact ⟨0, Nat.zero_le _, rfl, HO7.out, HB7.out⟩
      case round =>
        obtain ⟨k, hk, rfl, ho, h1⟩ := hrel
        clear HO7 HB7
        have HB := Lib.hid h1
        clear h1
        have hk3 : k = 0 ∨ k = 1 ∨ k = 2 := by omega
        clear hk
        rcases hk3 with rfl | rfl | rfl
        · have HO := Lib.hid (show Wi.IsOut ob ob (l7) wr from ho)
          clear ho
          have hix := fun W => idx_p p q HPL.out HQL.out W
          have HVS := Lib.hid (show (Cv.bytesV p).size = 32 from by rw [Cv.bytesV_size, HPL.out])
          have HZV := Lib.hid (show (⟨p.toArray⟩ : ByteArray).size = 32 from by show p.toArray.size = 32; simp [HPL.out])
          go_upto_region 11 with (refine Rg.store_fresh rfl 22 _ _ rfl (Cv.bytesV p) _ 22 rfl rfl (by rw [HVS.out]; kernel_rfl) (by rw [HVS.out]; rfl) (Cv.bytesV_one _) ?_; intro V1 hX hbX; have HV1 := Lib.hid hX; have HBV := Lib.hid hbX; clear hX hbX)
          obtain ⟨vb, hvb⟩ : ∃ n, wr.heap.size = n := ⟨_, rfl⟩
          have HV1 := Lib.hid (hvb ▸ HV1.out)
          try rw [hvb]
          have HO := Lib.hid (HO.out.below HBV.out)
          have HB := Lib.hid (HB.out.trans (HBV.out.mono (Nat.le_trans HYS.out HB.out.size)))
          clear HBV hvb hix
          go_wp2_with (first
            | ((with_reducible refine gate_ ?_); refine Cv.conv_string rfl 36 5 9 _ rfl Tryz.underlying36 Tryz.underlying5 Tryz.underlying9 vb 0 32 32 p rfl HPL.out (Cv.Bytes.of_blk HV1.out) ?_; skip)
            | (go_at_call 36; refine (Wi.Text_any ob ob _ ⟨p.toArray⟩ (by rw [HZV.out]; decide) _ HO.out (by rw [HZV.out]; have := HL7.out; have := tl_len p; have := HPL.out; omega) (Nat.le_trans HYS.out HB.out.size)).mono ?_; rintro e w8 ⟨rfl, h7, hc7⟩; skip; have HO8 := Lib.hid h7; have HB8 := Lib.hid (HB.out.trans hc7.below); clear h7 hc7))
          go_roundw
          case rel =>
            have REL := Lib.hid (show ∃ k' : Nat, k' ≤ 2 ∧ Value.int .i64 1 = .int .i64 k' ∧ Wi.IsOut ob ob (ps l7 p q k') w8 ∧ Below ob Y w8 from ⟨1, by decide, rfl, HO8.out, HB8.out⟩)
            first
              | exact REL.out
              | ((repeat apply Exists.intro); refine ⟨?_, rfl⟩; exact REL.out)
          case measure => (first | (simp [intOf]; done) | (simp [intOf]; omega))
        · have HO := Lib.hid (show Wi.IsOut ob ob (l7 ++ Wi.textL p) wr from ho)
          clear ho
          have hix := fun W => idx_q p q HPL.out HQL.out W
          have HVS := Lib.hid (show (Cv.bytesV q).size = 32 from by rw [Cv.bytesV_size, HQL.out])
          have HZV := Lib.hid (show (⟨q.toArray⟩ : ByteArray).size = 32 from by show q.toArray.size = 32; simp [HQL.out])
          go_upto_region 11 with (refine Rg.store_fresh rfl 22 _ _ rfl (Cv.bytesV q) _ 22 rfl rfl (by rw [HVS.out]; kernel_rfl) (by rw [HVS.out]; rfl) (Cv.bytesV_one _) ?_; intro V1 hX hbX; have HV1 := Lib.hid hX; have HBV := Lib.hid hbX; clear hX hbX)
          obtain ⟨vb, hvb⟩ : ∃ n, wr.heap.size = n := ⟨_, rfl⟩
          have HV1 := Lib.hid (hvb ▸ HV1.out)
          try rw [hvb]
          have HO := Lib.hid (HO.out.below HBV.out)
          have HB := Lib.hid (HB.out.trans (HBV.out.mono (Nat.le_trans HYS.out HB.out.size)))
          clear HBV hvb hix
          go_wp2_with (first
            | ((with_reducible refine gate_ ?_); refine Cv.conv_string rfl 36 5 9 _ rfl Tryz.underlying36 Tryz.underlying5 Tryz.underlying9 vb 0 32 32 q rfl HQL.out (Cv.Bytes.of_blk HV1.out) ?_; skip)
            | (go_at_call 36; refine (Wi.Text_any ob ob _ ⟨q.toArray⟩ (by rw [HZV.out]; decide) _ HO.out (by rw [HZV.out]; have := HL7.out; have := tl_len p; have := HPL.out; rw [List.length_append]; omega) (Nat.le_trans HYS.out HB.out.size)).mono ?_; rintro e w8 ⟨rfl, h7, hc7⟩; skip; have HO8 := Lib.hid h7; have HB8 := Lib.hid (HB.out.trans hc7.below); clear h7 hc7))
          go_roundw
          case rel =>
            have REL := Lib.hid (show ∃ k' : Nat, k' ≤ 2 ∧ Value.int .i64 2 = .int .i64 k' ∧ Wi.IsOut ob ob (ps l7 p q k') w8 ∧ Below ob Y w8 from ⟨2, by decide, rfl, HO8.out, HB8.out⟩)
            first
              | exact REL.out
              | ((repeat apply Exists.intro); refine ⟨?_, rfl⟩; exact REL.out)
          case measure => (first | (simp [intOf]; done) | (simp [intOf]; omega))
        · have HO := Lib.hid (show Wi.IsOut ob ob (l7 ++ Wi.textL p ++ Wi.textL q) wr from ho)
          clear ho
          obtain ⟨l8, hl8⟩ : ∃ l, l7 ++ Wi.textL p ++ Wi.textL q = l := ⟨_, rfl⟩
          have HL8 := Lib.hid (show l8.length ≤ 13000 from by rw [← hl8, List.length_append, List.length_append]; have := HL7.out; have := tl_len p; have := tl_len q; have := HPL.out; have := HQL.out; omega)
          rw [hl8] at HO HRES
          clear hl8
          obtain ⟨hs8, hhs8⟩ : ∃ b : ByteArray, (⟨(l8 ++ Wi.textL (Wi.bigL s)).toArray⟩ : ByteArray) = b := ⟨_, rfl⟩
          obtain ⟨zs, hzs⟩ : ∃ l, Sha.sha 32 (l8 ++ Wi.textL (Wi.bigL s)) = l := ⟨_, rfl⟩
          have HRES := Lib.hid (show Sha.sha 32 (hsL x p q s) = zs from by rw [HRES.out, hzs])
          have HZL := Lib.hid (show zs.length = 32 from hzs ▸ Sha.sha_length 32 (by decide) _)
          have HZS := Lib.hid (show (Cv.bytesV zs).size = 32 from by rw [Cv.bytesV_size, HZL.out])
          have HBG := Lib.hid (show (Wi.textL (Wi.bigL s)).length ≤ 37 from by rw [tl_len]; have := Wi.bigL_length s; have := HSL.out; omega)
          have HSU := Lib.hid (fun W (hW : Sha.Tables W) v (hv : Jo.Parts W v [hs8]) => show Calls Tryz.prog 32 #[v] W fun e w' => e = .returned (.agg (Cv.bytesV zs)) ∧ Below W.heap.size W w' from by
            have e1 : (Jo.joined [hs8]).data.toList = l8 ++ Wi.textL (Wi.bigL s) := by rw [Jo.joined_list, ← hhs8]; simp
            have := Sha.Sum256_any W v [hs8] hW hv (by rw [← ByteArray.size_data, ← Array.length_toList, e1, List.length_append]; have h1 := HL8.out; have h2 := HBG.out; omega) (by simp)
            rwa [e1, hzs] at this)
          have HBE := Lib.hid hhs8
          have HXw := Lib.hid (HX.out.below HB.out (by have := HN.out; omega))
          have HXB := Lib.hid (show Cv.Bytes wr xb 69 s from bytes_drop (p := q) (bytes_drop (p := p) (exV_bytes HXw.out) (show 5 + p.length = 37 by rw [HPL.out])) (by rw [HQL.out]))
          have HSZ2 := Lib.hid (show (⟨s.toArray⟩ : ByteArray).size = 32 from by show s.toArray.size = 32; simp [HSL.out])
          clear hhs8 hzs HXw
          go_wp2_with (first
            | ((with_reducible refine gate_ ?_); refine Cv.conv_string rfl 36 5 9 _ rfl Tryz.underlying36 Tryz.underlying5 Tryz.underlying9 xb 69 32 32 s rfl HSL.out HXB.out ?_; skip)
            | (go_at_call 29; refine (Wi.Big_any ob ob l8 ⟨s.toArray⟩ (by rw [HSZ2.out]; decide) _ HO.out (by rw [HSZ2.out]; have := HL8.out; omega) (Nat.le_trans HYS.out HB.out.size)).mono ?_; rintro e w9 ⟨rfl, h7, hc7⟩; skip; have HO9 := Lib.hid h7; have HB9 := Lib.hid (HB.out.trans hc7.below); clear h7 hc7)
            | (go_at_call 31; refine (Wi.Bytes_eq ob ob _ hs8 HBE.out _ (Bo.Read.of HO9.out) (Nat.le_trans HYS.out HB9.out.size)).mono ?_; rintro e w10 ⟨rfl, h3, hb3, hk3⟩; skip; have HB10 := Lib.hid (HB9.out.trans hb3); clear h3 hb3 hk3)
            | (go_at_call 32; refine (HSU.out _ ((HT.out.below HB10.out HTO.out).below ((Below.refl _ _).alloc (Nat.le_refl _) _) (HT.out.below HB10.out HTO.out).size) _ (parts_one w10 9 hs8)).mono ?_; rintro e w11 ⟨rfl, hb1⟩; skip; have HB11 := Lib.hid (HB10.out.trans ((((Below.refl _ _).alloc (Nat.le_refl _) _).trans (hb1.mono (by simp))).mono (Nat.le_trans HYS.out HB10.out.size))); clear hb1)
            | ((with_reducible refine gate_ ?_); refine Cv.store_blk rfl 22 _ _ rfl rb (Cv.bytesV zs) (#[.int .u8 0, .int .u8 0, .int .u8 0, .int .u8 0, .int .u8 0, .int .u8 0, .int .u8 0, .int .u8 0, .int .u8 0, .int .u8 0, .int .u8 0, .int .u8 0, .int .u8 0, .int .u8 0, .int .u8 0, .int .u8 0, .int .u8 0, .int .u8 0, .int .u8 0, .int .u8 0, .int .u8 0, .int .u8 0, .int .u8 0, .int .u8 0, .int .u8 0, .int .u8 0, .int .u8 0, .int .u8 0, .int .u8 0, .int .u8 0, .int .u8 0, .int .u8 0] : Array Value) 22 rfl rfl (HZ.out.below HB11.out (by have := HN.out; omega)) (by rw [HZS.out]; kernel_rfl) (by rw [HZS.out]; rfl) (Cv.bytesV_one _) ?_; intro V3 hV hgV; have HZZ := Lib.hid hV; have HG3 := Lib.hid hgV; clear hV hgV))
          have HBZ := Lib.hid ((HB0.out.trans (HB11.out.mono (by have := HN.out; omega))).grown HG3.out (by have := HB11.out.size; have := HYS.out; have := HN.out; omega) (fun j e => by cases e; have := HN.out; omega))
          refine bodyPost_ret (v := .agg (Cv.bytesV zs))
            (results_cell_row Tryz.results15 _ _ rb 22 _ (0, 0) _ rfl HZZ.out Tryz.underlying22 rfl (by rw [HZS.out]; kernel_rfl)) rfl ?_
          exact ⟨by rw [HRES.out], HKB.out ▸ HBZ.out⟩
end Go.Proofs.YtfaeigbfnjkojaaGreatDoor.Kx
