/- The law MessageBlobs: the walk. -/
import Derived.Test.YtjfikbnfabdkoaaGreatDoorBlobK
import Derived.Test.YtjfikbnfabdkoaaGreatDoorErrW
import Derived.Laws.CopyOwn
import Derived.Test.YtjfikbnfabdkoaaGreatDoorMsgAwk
set_option linter.unusedVariables false
set_option linter.unusedSimpArgs false
namespace Go.Proofs.YtjfikbnfabdkoaaGreatDoor.Bl
open Go.RowKit Go.Proofs.YtjfikbnfabdkoaaGreatDoor.Wi Go.Proofs.YtjfikbnfabdkoaaGreatDoor.Ow Go.Proofs.YtjfikbnfabdkoaaGreatDoor.Be Go.Proofs.YtjfikbnfabdkoaaGreatDoor.Cv Go.Proofs.YtjfikbnfabdkoaaGreatDoor.Sp
variable {P : Program}
theorem bytesV_bv (l : List UInt8) : bytesV l = (bv l).toArray := by unfold bytesV bv; rfl
theorem bytesV_set (l : List UInt8) (j : Nat) (v : UInt8) : (bytesV l).setIfInBounds j (.int .u8 (v.toNat : Int)) = bytesV (l.set j v) := by
  unfold bytesV
  simp [Lib.byteCells, List.map_set]
/-- copy(d[:], s[:]) of bytes, into a block of bytes known whole -/
theorem copy_blk {ops : Array Oper} {rest : List Oper} {o : Oper} {a : Act} {w : World} {Q : Exit → Act → World → Prop} (hgd : o.guard = none) (d s : Operand) (dT sT e : TypeId)
    (ho : o.op = .call { callee := .builtin .copy, args := #[d, s], argTypes := #[dT, sT] }) (b dLen dCap sb sLen sCap : Nat) (l z : List UInt8) (T : TypeId) (hd : a.eval d = .slice (some ⟨b, 0, none⟩) dLen dCap) (hs : a.eval s = .slice (some ⟨sb, 0, none⟩) sLen sCap)
    (hu : P.underlying dT = some (.slice e)) (hi : (P.info? e).map (·.size) = some 1) (hB : Rg.Blk w b T (bytesV z)) (hS : Bytes w sb 0 l) (hl : l.length = sLen) (hle : sLen ≤ dLen) (hfit : l.length ≤ z.length)
    (h : ∀ X, Rg.Blk X b T (bytesV (l ++ z.drop l.length)) → w.grownBy X (some b) → wpList P ops Q rest (a.put o.dst (.int .i64 l.length)) X) : wpList P ops Q (o :: rest) a w := by
  refine wpList_copy_own hgd d s dT sT ho e hu hi b 0 dLen dCap ⟨sb, 0, none⟩ sLen sCap hd hs (bytesV z) T hB (bv l) (by rw [bv_length, hl]; exact (Nat.min_eq_left hle).symm) ?_ (by rw [bv_length, bytesV_size]; omega) (fun v hv => bv_cells l v hv) ?_
  · intro j v hv
    have := hS.cells j v (by rw [bytesV_bv]; simpa using hv)
    have hadd : (⟨sb, 0, none⟩ : Addr).add j = ⟨sb, 0 + j, none⟩ := by unfold Addr.add; split <;> simp_all
    rw [hadd]
    exact this
  · have hr := hB.setRow (cs := ((bytesV z).toList.take 0 ++ (bv l ++ (bytesV z).toList.drop (0 + (bv l).length))).toArray)
    have := h (w.setRow b ((bytesV z).toList.take 0 ++ (bv l ++ (bytesV z).toList.drop (0 + (bv l).length))).toArray) (by
      have e1 : ((bytesV z).toList.take 0 ++ (bv l ++ (bytesV z).toList.drop (0 + (bv l).length))).toArray = bytesV (l ++ z.drop l.length) := by
        rw [bytesV_bv, bytesV_bv]
        simp [bv, Lib.byteCells]
      rw [← e1]; exact hr) ⟨rfl, rfl, rfl, by simp, fun k _ hk => setRow_other w b k _ (fun e => hk (congrArg some e))⟩
    rw [bv_length]
    rw [bv_length] at this
    exact this
/-- a byte stored into a block of bytes: the world behind it has a name -/
theorem store_byte {ops : Array Oper} {rest : List Oper} {o : Oper} {a : Act} {w : World} {Q : Exit → Act → World → Prop} (hgd : o.guard = none) (ty : TypeId) (x y : Operand) (ho : o.op = .store ty x y)
    {b j T : Nat} {l : List UInt8} {v : UInt8} {z : Int} (hz : z = (v.toNat : Int)) (hx : a.eval x = .pointer (some ⟨b, j, none⟩)) (hy : a.eval y = .int .u8 z) (hu : P.underlying ty = some (.int .u8)) (hi : (P.info? ty).map (·.size) = some 1) (hR : Rg.Blk w b T (bytesV l)) (hj : j < l.length)
    (h : ∀ w', Rg.Blk w' b T (bytesV (l.set j v)) → w.grownBy w' (some b) → wpList P ops Q rest (a.put o.dst undef) w') : wpList P ops Q (o :: rest) a w :=
  wpList_plain hgd fun _ hK => by
    subst hz
    have hx' := hx
    have hy' := hy
    have hc := hR.cell j (bytesV_get l j l[j] (List.getElem?_eq_getElem hj))
    have hf := hR.frozen j
    simp [go_sem] at hx' hy'
    unfold Oper.wp execOp
    cases hq : P.info? ty with
    | none => simp [hq] at hi
    | some i =>
    have hs : i.size = 1 := by simpa [hq] using hi
    simp [ho, hx', hy', go_sem, hc, hf, hu, sizeOf, typeInfo, hq, hs]
    have hB : Rg.Blk (w.setCell ⟨b, j, none⟩ (.int .u8 (v.toNat : Int))) b T (bytesV (l.set j v)) := by
      have h2 := hR
      unfold Rg.Blk at *
      rw [heap_setCell_same w b j _ _ _ h2, bytesV_set]
    have := hK _ _ (h _ hB (Cl.grown_setCell w b j _))
    simpa [go_sem] using this
/-- a guarded operation that is carried out -/
theorem wpList_wanted {ops : Array Oper} {rest : List Oper} {o : Oper} {a : Act} {w : World} {Q : Exit → Act → World → Prop} (hw : Region.wanted o (yielded ops a.tmps) = true)
    (h : ∀ K : Act → World → Prop, (∀ a w, wpList P ops Q rest a w → K a w) → o.wp P a w K Q) : wpList P ops Q (o :: rest) a w :=
  wpList_step fun K hK => by rw [if_pos hw]; exact h K hK
/-- an array or a struct loaded whole, under a guard -/
theorem load_blk_g {ops : Array Oper} {rest : List Oper} {o : Oper} {a : Act} {w : World} {Q : Exit → Act → World → Prop} (hw : Region.wanted o (yielded ops a.tmps) = true) (ty : TypeId) (x : Operand) (ho : o.op = .load ty x)
    (b : Nat) (cs : Array Value) (T : TypeId) (hx : a.eval x = .pointer (some ⟨b, 0, none⟩)) (hB : Rg.Blk w b T cs) {d : TypeDesc} (hu : P.underlying ty = some d) (hd : (match d with | .struct _ | .array _ _ => true | _ => false) = true) (hi : (P.info? ty).map (·.size) = some cs.size)
    (h : wpList P ops Q rest (a.put o.dst (.agg cs)) w) : wpList P ops Q (o :: rest) a w :=
  wpList_wanted hw fun _ hK => by
    unfold Oper.wp
    rw [RT.run_row ty x ho b hx T cs hB hu hd hi]
    exact hK _ _ h
theorem wp_name2 {c : Code} {Q : Exit → Act → World → Prop} {a : Act} {W : World} (h : ∀ X, X = W → c.wp P Q a X) : c.wp P Q a W := h W rfl
/-- the signature that the law makes -/
@[irreducible] def sgL (l : List UInt8) (n : Int) : List UInt8 := (l ++ (zB 64).drop l.length).set 63 (UInt8.ofNat (n % 256).toNat)
theorem sgL_length (l : List UInt8) (n : Int) (hl : l.length = 32) : (sgL l n).length = 64 := by unfold sgL; rw [List.length_set, List.length_append, List.length_drop, zB_length]; omega
theorem byte_of (n : Int) : n % 256 = ((UInt8.ofNat (n % 256).toNat).toNat : Int) := by
  have h0 := Int.emod_nonneg n (show (256 : Int) ≠ 0 by decide)
  have h1 := Int.emod_lt_of_pos n (show (0 : Int) < 256 by decide)
  have : (UInt8.ofNat (n % 256).toNat).toNat = (n % 256).toNat := by
    simp only [UInt8.toNat_ofNat']
    omega
  rw [this]; omega
theorem bytesV_list (s : List UInt8) : (⟨s.toArray⟩ : ByteArray).data.toList = s := rfl
set_option maxRecDepth 20000 in
set_option maxHeartbeats 16000000 in
theorem law_MessageBlobs (w : World) (l : List UInt8) (hl : l.length = 32) (s : ByteArray) (n : Int) (hn : (Lit.int .i64 n).wf = true) (a : Nat → Addr) (hE : Ei.ErrsAll w a) (hT : Mg.TabR w) (hG : Ei.ErrTy w) (hM : ∃ m, w.cell? ⟨22, 0, none⟩ = some (.int .i64 m)) :
    Calls Tryz.prog 3 #[.agg (bytesV l), .string s, .int .i64 n] w fun e w' => e = .returned (.bool true) ∧ Below w.heap.size w w' := by
  obtain ⟨sg, hsg⟩ : ∃ x, sgL l n = x := ⟨_, rfl⟩
  obtain ⟨KB, hKB⟩ : ∃ x, mkS (blobL l) = x := ⟨_, rfl⟩
  obtain ⟨SB, hSB⟩ : ∃ x, mkS (blobL sg) = x := ⟨_, rfl⟩
  have hsl : sg.length = 64 := by rw [← hsg]; exact sgL_length l n hl
  have hKs : KB.size = 51 := by rw [← hKB, mkS_size, blobL_length, hl]
  have hSs : SB.size = 83 := by rw [← hSB, mkS_size, blobL_length, hsl]
  obtain ⟨t, ht⟩ : ∃ t, s.extract 0 120 = t := ⟨_, rfl⟩
  have hts : t.size ≤ 120 := by rw [← ht, ByteArray.size_extract]; omega
  have HAW := Lib.hid (show ∀ W, Below w.heap.size w W → Calls Tryz.prog 4 #[] W fun e w' => e = .returned (.bool true) ∧ Below W.heap.size W w' from fun W hW => Mg.awake10 W a ((Mg.ErrsM.of hE).below hW) (hT.below hW) (Mg.cell_later hM hW))
  have HCT := Lib.hid (show ∀ W : World, Calls Tryz.prog 5 #[.string s, .int .i64 120] W fun e w' => e = .returned (.string t) ∧ W = w' from fun W => ht ▸ Cut_any W s 120 (by decide))
  have HKB := Lib.hid (show ∀ W, Calls Tryz.prog 6 #[.agg (bytesV l)] W fun e w' => e = .returned (.string KB) ∧ Below W.heap.size W w' from fun W => hKB ▸ KeyBlob_any W l hl)
  have HSB := Lib.hid (show ∀ W, Calls Tryz.prog 7 #[.agg (bytesV sg)] W fun e w' => e = .returned (.string SB) ∧ Below W.heap.size W w' from fun W => hSB ▸ SignBlob_any W sg hsl)
  have HBK := Lib.hid (show ∀ W, Below w.heap.size w W → Calls Tryz.prog 8 #[.string KB] W fun e w' => e = .returned (.tuple #[.agg (bytesV l), .nilIface]) ∧ Below W.heap.size W w' from fun W hW => by
    have hb := blob_back KB l (by rw [← hKB]; rfl) (by omega) 10
    rw [hl] at hb
    have := BlobKey_ok W a (hE.below hW) KB (by omega) hb.1
    rw [← (opR_size KB 32 10 (by decide) hb.1).2, hb.2] at this
    exact this)
  have HBS := Lib.hid (show ∀ W, Below w.heap.size w W → Calls Tryz.prog 9 #[.string SB] W fun e w' => e = .returned (.tuple #[.agg (bytesV sg), .nilIface]) ∧ Below W.heap.size W w' from fun W hW => by
    have hb := blob_back SB sg (by rw [← hSB]; rfl) (by omega) 11
    rw [hsl] at hb
    have := BlobSign_ok W a (hE.below hW) SB (by omega) hb.1
    rw [← (opR_size SB 64 11 (by decide) hb.1).2, hb.2] at this
    exact this)
  have HR1 := Lib.hid (show ∀ W, Calls Tryz.prog 10 #[.string ⟨l.toArray⟩] W fun e w' => e = .returned (.string KB) ∧ Below W.heap.size W w' from fun W => hKB ▸ RefBlob_any W ⟨l.toArray⟩ (by show l.toArray.size ≤ 1000; rw [List.size_toArray]; omega))
  have HR2 := Lib.hid (show ∀ W, Calls Tryz.prog 10 #[.string ⟨sg.toArray⟩] W fun e w' => e = .returned (.string SB) ∧ Below W.heap.size W w' from fun W => hSB ▸ RefBlob_any W ⟨sg.toArray⟩ (by show sg.toArray.size ≤ 1000; rw [List.size_toArray]; omega))
  have HQ1 := Lib.hid (fun W : World => run_equalIn_self (P := Tryz.prog) W 22 5 32 Tryz.underlying22 Tryz.underlying5 infoU8 l hl)
  have HQ2 := Lib.hid (fun W : World => run_equalIn_self (P := Tryz.prog) W 25 5 64 Tryz.underlying25 Tryz.underlying5 infoU8 sg hsl)
  have HQ3 := Lib.hid (fun W : World => show (Op.equalIn 10000 22 (.agg (bytesV (zB 32))) (.agg #[.int .u8 0, .int .u8 0, .int .u8 0, .int .u8 0, .int .u8 0, .int .u8 0, .int .u8 0, .int .u8 0, .int .u8 0, .int .u8 0, .int .u8 0, .int .u8 0, .int .u8 0, .int .u8 0, .int .u8 0, .int .u8 0, .int .u8 0, .int .u8 0, .int .u8 0, .int .u8 0, .int .u8 0, .int .u8 0, .int .u8 0, .int .u8 0, .int .u8 0, .int .u8 0, .int .u8 0, .int .u8 0, .int .u8 0, .int .u8 0, .int .u8 0, .int .u8 0])).run Tryz.prog W = .ok true W from zero_key ▸ run_equalIn_self (P := Tryz.prog) W 22 5 32 Tryz.underlying22 Tryz.underlying5 infoU8 (zB 32) (zB_length 32))
  have HQ4 := Lib.hid (fun W : World => show (Op.equalIn 10000 25 (.agg (bytesV (zB 64))) (.agg #[.int .u8 0, .int .u8 0, .int .u8 0, .int .u8 0, .int .u8 0, .int .u8 0, .int .u8 0, .int .u8 0, .int .u8 0, .int .u8 0, .int .u8 0, .int .u8 0, .int .u8 0, .int .u8 0, .int .u8 0, .int .u8 0, .int .u8 0, .int .u8 0, .int .u8 0, .int .u8 0, .int .u8 0, .int .u8 0, .int .u8 0, .int .u8 0, .int .u8 0, .int .u8 0, .int .u8 0, .int .u8 0, .int .u8 0, .int .u8 0, .int .u8 0, .int .u8 0, .int .u8 0, .int .u8 0, .int .u8 0, .int .u8 0, .int .u8 0, .int .u8 0, .int .u8 0, .int .u8 0, .int .u8 0, .int .u8 0, .int .u8 0, .int .u8 0, .int .u8 0, .int .u8 0, .int .u8 0, .int .u8 0, .int .u8 0, .int .u8 0, .int .u8 0, .int .u8 0, .int .u8 0, .int .u8 0, .int .u8 0, .int .u8 0, .int .u8 0, .int .u8 0, .int .u8 0, .int .u8 0, .int .u8 0, .int .u8 0, .int .u8 0, .int .u8 0])).run Tryz.prog W = .ok true W from zero_sig ▸ run_equalIn_self (P := Tryz.prog) W 25 5 64 Tryz.underlying25 Tryz.underlying5 infoU8 (zB 64) (zB_length 64))
  have HC0 := Lib.hid (show ∀ W, Below w.heap.size w W → Calls Tryz.prog 12 #[.nilIface] W fun e w' => e = .returned (.int .i64 0) ∧ W = w' from fun W hW => Ei.Code_any W a (hE.below hW) 0 (by decide))
  have HL := Lib.hid hl
  have HSL := Lib.hid hsl
  have HSG := Lib.hid hsg
  have HKS := Lib.hid hKs
  have HSS := Lib.hid hSs
  have HTS := Lib.hid hts
  have HV1 := Lib.hid (show (bytesV l).size = 32 by rw [bytesV_size, hl])
  have HV2 := Lib.hid (show (bytesV sg).size = 64 by rw [bytesV_size, hsl])
  have HE := Lib.hid hE
  have hq1 : ¬ 9223372036854775807 < KB.size + t.size := by omega
  have HG := Lib.hid hG
  clear hE hT hG hM hKB hSB hsl hsg hKs hSs hts ht hl
  go_enter Tryz.func3, Tryz.ntmps3
  go_wp2_with fail
  generalize hX : World.alloc w _ = X
  have HM0 := Lib.hid (show Mem w [] X [Sp.blk w.heap.size 22 (bytesV l)] by subst hX; exact (Mem.start w).alloc _ _)
  clear hX
  go_upto_region 4 with (first
    | (go_at_call 4; refine (HAW.out _ HM0.out.bel).mono ?_; rintro e w1 ⟨rfl, hb1⟩; skip; have HM1 := Lib.hid (HM0.out.below hb1); clear hb1)
    | (go_at_call 5; refine (HCT.out _).mono ?_; rintro e w2 ⟨rfl, rfl⟩; skip))
  go_upto_region 5 with fail
  generalize hX : World.alloc w1 _ = Y
  have HM2 := Lib.hid (show Mem w [] Y [Sp.blk w.heap.size 22 (bytesV l), Sp.blk w1.heap.size 25 (bytesV (zB 64))] by rw [zero_sig]; subst hX; exact HM1.out.alloc _ _)
  clear hX
  refine RT.start (RL.Aft Y) 2 1 (by kernel_rfl) (by decide) rfl (by kernel_rfl) (by kernel_rfl) (RL.Aft.drew (RL.Aft.refl Y)) ?_
  refine' RT.takeV (i := 0) (v := _) rfl (by kernel_rfl) (by kernel_rfl) (by kernel_rfl) (by decide) (fun _ _ _ h => h) (by rfl) ?hk1 ?_
  case hk1 => (intro W hSW; go_simp; try with_reducible rfl)
  (try simp only [Act.put, List.setIfInBounds_toArray, List.set_cons_zero, List.set_cons_succ])
  refine' RT.takeV (i := 1) (v := _) rfl (by kernel_rfl) (by kernel_rfl) (by kernel_rfl) (by decide) (fun _ _ _ h => h) (by rfl) ?hk2 ?_
  case hk2 => (intro W hSW; go_simp; try with_reducible rfl)
  (try simp only [Act.put, List.setIfInBounds_toArray, List.set_cons_zero, List.set_cons_succ])
  refine RT.tail (by kernel_rfl) rfl rfl ?_
  intro wd hlwd hswd
  have HM3 := Lib.hid (HM2.out.below hswd)
  refine copy_blk rfl _ _ 26 26 5 rfl w1.heap.size 64 64 w.heap.size 32 32 l (zB 64) 25 rfl rfl Tryz.underlying26 (by kernel_rfl) (HM3.out.blk 1 rfl) (Bytes.of_blk (HM3.out.blk 0 rfl)) HL.out (by decide) (by rw [HL.out, zB_length]; decide) ?_
  intro W2 hW2 hg2
  have HM4 := Lib.hid (HM3.out.store 1 rfl hW2 hg2)
  clear hlwd hswd hW2 hg2
  go_upto_region 7 with (refine store_byte (v := UInt8.ofNat (n % 256).toNat) rfl 5 _ _ rfl (byte_of n) rfl rfl Tryz.underlying5 (by kernel_rfl) (HM4.out.blk 1 rfl) (by rw [List.length_append, List.length_drop, zB_length, HL.out]; decide) ?_; intro W3 hW3 hg3; have HM5 := Lib.hid (show Mem w [] W3 [Sp.blk w.heap.size 22 (bytesV l), Sp.blk w1.heap.size 25 (bytesV sg)] by have h := HM4.out.store 1 rfl hW3 hg3; rw [← HSG.out]; unfold sgL; exact h); clear hW3 hg3)
  refine RL.start (RL.Aft W3) (by kernel_rfl) (RL.Aft.drew (RL.Aft.refl W3)) ?_
  refine RL.takeV (i := 0) (v := .agg (bytesV l)) rfl (by kernel_rfl) (by kernel_rfl) (by kernel_rfl) (fun _ _ _ h => h) (by rfl) (fun W hSW => RT.run_row 22 _ rfl _ rfl _ _ ((HM5.out.below hSW).blk 0 rfl) Tryz.underlying22 rfl (by rw [HV1.out]; kernel_rfl)) ?_
  (try simp only [Act.put, List.setIfInBounds_toArray, List.set_cons_zero, List.set_cons_succ])
  refine' RL.takeC (i := 1) (v := .string KB) 6 #[.agg (bytesV l)] rfl (by kernel_rfl) (by kernel_rfl) (by kernel_rfl) (fun _ _ _ h => h) (by rfl) ?hk3 ?hc3 ?_
  case hk3 => (intro W; go_simp; try with_reducible rfl)
  case hc3 => (intro W hSW; exact (HKB.out W).mono fun e w' ⟨h1, h2⟩ => ⟨h1, h2, RL.Aft.lat hSW h2⟩)
  (try simp only [Act.put, List.setIfInBounds_toArray, List.set_cons_zero, List.set_cons_succ])
  refine RL.takeV (i := 2) (v := .agg (bytesV sg)) rfl (by kernel_rfl) (by kernel_rfl) (by kernel_rfl) (fun _ _ _ h => h) (by rfl) (fun W hSW => RT.run_row 25 _ rfl _ rfl _ _ ((HM5.out.below hSW).blk 1 rfl) Tryz.underlying25 rfl (by rw [HV2.out]; kernel_rfl)) ?_
  (try simp only [Act.put, List.setIfInBounds_toArray, List.set_cons_zero, List.set_cons_succ])
  refine' RL.takeC (i := 3) (v := .string SB) 7 #[.agg (bytesV sg)] rfl (by kernel_rfl) (by kernel_rfl) (by kernel_rfl) (fun _ _ _ h => h) (by rfl) ?hk4 ?hc4 ?_
  case hk4 => (intro W; go_simp; try with_reducible rfl)
  case hc4 => (intro W hSW; exact (HSB.out W).mono fun e w' ⟨h1, h2⟩ => ⟨h1, h2, RL.Aft.lat hSW h2⟩)
  (try simp only [Act.put, List.setIfInBounds_toArray, List.set_cons_zero, List.set_cons_succ])
  refine' RL.takeV (i := 4) (v := _) rfl (by kernel_rfl) (by kernel_rfl) (by kernel_rfl) (fun _ _ _ h => h) (by rfl) ?hk5 ?_
  case hk5 => (intro W hSW; go_simp; try with_reducible rfl)
  (try simp only [Act.put, List.setIfInBounds_toArray, List.set_cons_zero, List.set_cons_succ])
  refine' RL.takeV (i := 5) (v := _) rfl (by kernel_rfl) (by kernel_rfl) (by kernel_rfl) (fun _ _ _ h => h) (by rfl) ?hk6 ?_
  case hk6 => (intro W hSW; go_simp; try with_reducible rfl)
  (try simp only [Act.put, List.setIfInBounds_toArray, List.set_cons_zero, List.set_cons_succ])
  refine RL.done (by kernel_rfl) (fun wd2 hlwd2 hswd2 => ?_)
  have HM6 := Lib.hid (HM5.out.below hswd2)
  clear hlwd2 hswd2
  have tok := True.intro
  go_upto_region 10 with (first
    | (go_at_call 8; refine (HBK.out _ HM6.out.bel).mono ?_; rintro e w4 ⟨rfl, hb4⟩; skip; have HM7 := Lib.hid (HM6.out.below hb4); clear hb4)
    | (have _t := tok; (refine Rg.store_fresh rfl 22 _ _ rfl (bytesV l) _ 22 rfl rfl (by rw [HV1.out]; kernel_rfl) (by rw [HV1.out]; rfl) (bytesV_one _) ?_; intro W4 hW4 hb; have HM8 := Lib.hid (HM7.out.below hb); have HN1 := Lib.hid hW4; have tok2 := True.intro; clear hW4 hb _t tok))
    | (go_at_call 9; refine (HBS.out _ HM8.out.bel).mono ?_; rintro e w5 ⟨rfl, hb5⟩; skip; have HM9 := Lib.hid (HM8.out.below hb5); have HN2 := Lib.hid (HN1.out.below hb5 HN1.out.lt); clear hb5)
    | (have _t := tok2; (refine Rg.store_fresh rfl 25 _ _ rfl (bytesV sg) _ 25 rfl rfl (by rw [HV2.out]; kernel_rfl) (by rw [HV2.out]; rfl) (bytesV_one _) ?_; intro W5 hW5 hb; have HMA := Lib.hid (HM9.out.below hb); have HN3 := Lib.hid (HN2.out.below hb HN2.out.lt); have HO3 := Lib.hid hW5; clear hW5 hb _t tok2)))
  have tok := True.intro
  go_upto_region 11 with (first
    | (have _t := tok; refine conv_string rfl 26 5 9 _ rfl Tryz.underlying26 Tryz.underlying5 Tryz.underlying9 w.heap.size 0 32 32 l rfl HL.out (Bytes.of_blk (HMA.out.blk 0 rfl)) ?_; skip)
    | (go_at_call 10; have _t := tok; refine (HR1.out _).mono ?_; rintro e w6 ⟨rfl, hb6⟩; skip
       have HMB := Lib.hid (HMA.out.below hb6); have HN6 := Lib.hid (HN3.out.below hb6 HN3.out.lt); have HO6 := Lib.hid (HO3.out.below hb6 HO3.out.lt)
       have tok2 := True.intro
       have cs2 := run_string_len (P := Tryz.prog) w6 26 5 9 Tryz.underlying26 Tryz.underlying5 Tryz.underlying9 w1.heap.size 0 64 64 sg HSL.out (Bytes.of_blk (HMB.out.blk 1 rfl))
       clear hb6 _t tok)
    | (go_at_call 10; have _t := tok2; refine (HR2.out _).mono ?_; rintro e w7 ⟨rfl, hb7⟩; skip
       have HMC := Lib.hid (HMB.out.below hb7); have HN7 := Lib.hid (HN6.out.below hb7 HN6.out.lt); have HO7 := Lib.hid (HO6.out.below hb7 HO6.out.lt)
       have q1 := HQ1.out w7
       have q2 := HQ2.out w7
       clear hb7 _t tok2)
    | (refine load_blk_g (by rfl) 22 _ rfl w4.heap.size (bytesV l) 22 rfl HN7.out Tryz.underlying22 rfl (by rw [HV1.out]; kernel_rfl) ?_; skip)
    | (refine load_blk_g (by rfl) 22 _ rfl w.heap.size (bytesV l) 22 rfl (HMC.out.blk 0 rfl) Tryz.underlying22 rfl (by rw [HV1.out]; kernel_rfl) ?_; skip)
    | (refine load_blk_g (by rfl) 25 _ rfl w5.heap.size (bytesV sg) 25 rfl HO7.out Tryz.underlying25 rfl (by rw [HV2.out]; kernel_rfl) ?_; skip)
    | (refine load_blk_g (by rfl) 25 _ rfl w1.heap.size (bytesV sg) 25 rfl (HMC.out.blk 1 rfl) Tryz.underlying25 rfl (by rw [HV2.out]; kernel_rfl) ?_; skip))
  refine wp_name2 (fun X hX => ?_)
  obtain ⟨v3, hv3⟩ : ∃ v, SB.extract 0 (max 0 (min n ↑SB.size)).toNat = v := ⟨_, rfl⟩
  have hv3s : v3.size ≤ 1000 := by rw [← hv3, ByteArray.size_extract]; have := HSS.out; omega
  rw [hv3] at hX ⊢
  have HX := Lib.hid (show Mem w [] X [Sp.blk w7.heap.size 9 #[.string t, .string (KB ++ t), .string v3, .string SB]] by
    rw [hX]; exact (HMC.out.nil).alloc _ _)
  have HTB := Lib.hid (show ∀ k : Nat, k < 4 → ∃ x : ByteArray, (#[Value.string t, .string (KB ++ t), .string v3, .string SB])[k]? = some (.string x) ∧ x.size ≤ 1000 from fun k hk => by
    have h1 := HSS.out; have h2 := HKS.out; have h3 := HTS.out
    match k, hk with
    | 0, _ => exact ⟨t, rfl, by omega⟩
    | 1, _ => exact ⟨KB ++ t, rfl, by rw [ByteArray.size_append]; omega⟩
    | 2, _ => exact ⟨v3, rfl, hv3s⟩
    | 3, _ => exact ⟨SB, rfl, by omega⟩)
  generalize (#[Value.string t, .string (KB ++ t), .string v3, .string SB]) = TS at *
  clear hX hv3 hv3s q1 q2 cs2 hq1
  go_loopw [90] (fun i wr => ∃ k : Nat, k ≤ 4 ∧ i = .int .i64 k ∧ Mem w [] wr [Sp.blk w7.heap.size 9 TS]) (fun i _ => 4 - (intOf i).toNat)
  case atStart => exact ⟨0, Nat.zero_le _, rfl, HX.out⟩
  case round =>
    obtain ⟨k, hk, rfl, hm⟩ := hrel
    have HM := Lib.hid hm
    clear hm
    by_cases hkn : k < 4
    · have hd : decide (k < 4) = true := by simp; exact hkn
      have hdi : decide ((k : Int) < 4) = true := by simp; omega
      have hik : (k : Int) < 4 := by omega
      have hik0 : (0 : Int) ≤ k := by omega
      obtain ⟨x, hx, hxs⟩ := HTB.out k hkn
      have y1 := (HM.out.blk 0 rfl).cell k hx
      clear hx
      obtain ⟨c1, hc1⟩ : ∃ c, opC x 32 10 = c := ⟨_, rfl⟩
      obtain ⟨c2, hc2⟩ : ∃ c, opC x 64 11 = c := ⟨_, rfl⟩
      obtain ⟨r1, hr1⟩ : ∃ r, opR x 32 10 = r := ⟨_, rfl⟩
      obtain ⟨r2, hr2⟩ : ∃ r, opR x 64 11 = r := ⟨_, rfl⟩
      have hl1 : c1 ≤ 20 := by rw [← hc1]; exact opC_le x 32 10 (by decide)
      have hl2 : c2 ≤ 20 := by rw [← hc2]; exact opC_le x 64 11 (by decide)
      have HO1 := Lib.hid (show ∀ W, Calls Tryz.prog 11 #[.string x, .int .i64 32, .int .i64 10] W fun e w' => e = .returned (.tuple #[.string r1, .int .i64 (c1 : Int)]) ∧ Below W.heap.size W w' from fun W => by
        have := RefOpen_any W x (by omega) 32 10 (by decide)
        rw [hc1, hr1] at this; exact this)
      have HO2 := Lib.hid (show ∀ W, Calls Tryz.prog 11 #[.string x, .int .i64 64, .int .i64 11] W fun e w' => e = .returned (.tuple #[.string r2, .int .i64 (c2 : Int)]) ∧ Below W.heap.size W w' from fun W => by
        have := RefOpen_any W x (by omega) 64 11 (by decide)
        rw [hc2, hr2] at this; exact this)
  
      by_cases hz1 : c1 = 0
      · obtain rfl : c1 = 0 := hz1
        have hz1s : r1.size = 32 ∧ r1 = opX x := by rw [← hr1]; exact opR_size x 32 10 (by decide) hc1
        have HG1 := Lib.hid (show ∀ W, Below w.heap.size w W → Calls Tryz.prog 8 #[.string x] W fun e w' => e = .returned (.tuple #[.agg (bytesV r1.data.toList), .nilIface]) ∧ Below W.heap.size W w' from fun W hW => by
          have := BlobKey_ok W a (HE.out.below hW) x (by omega) hc1
          rw [← hz1s.2] at this; exact this)
        have HZ1 := Lib.hid hz1s.1
        have HY1 := Lib.hid (show (bytesV r1.data.toList).size = 32 by rw [bytesV_size, len_list, hz1s.1])
        clear hz1s
        by_cases hz2 : c2 = 0
        · skip
          obtain rfl : c2 = 0 := hz2
          have hz2s : r2.size = 64 ∧ r2 = opX x := by rw [← hr2]; exact opR_size x 64 11 (by decide) hc2
          have HG2 := Lib.hid (show ∀ W, Below w.heap.size w W → Calls Tryz.prog 9 #[.string x] W fun e w' => e = .returned (.tuple #[.agg (bytesV r2.data.toList), .nilIface]) ∧ Below W.heap.size W w' from fun W hW => by
            have := BlobSign_ok W a (HE.out.below hW) x (by omega) hc2
            rw [← hz2s.2] at this; exact this)
          have HZ2 := Lib.hid hz2s.1
          have HY2 := Lib.hid (show (bytesV r2.data.toList).size = 64 by rw [bytesV_size, len_list, hz2s.1])
          clear hz2s
          clear hc1 hc2 hr1 hr2 hl1 hl2 hxs
          have tok1 := True.intro
          go_wp2_with (first
            | (go_at_call 11; have _t := tok1; refine (HO1.out _).mono ?_; rintro e p1 ⟨rfl, hb⟩; skip; have Hp1 := Lib.hid (HM.out.below hb); clear hb _t tok1)
            | (go_at_call 8; refine (HG1.out _ Hp1.out.bel).mono ?_; rintro e p2 ⟨rfl, hb⟩; skip; have Hp2 := Lib.hid (Hp1.out.below hb); have tok1b := True.intro; clear hb)
            | (have _t := tok1b; refine Rg.store_fresh rfl 22 _ _ rfl (bytesV r1.data.toList) _ 22 rfl rfl (by rw [HY1.out]; kernel_rfl) (by rw [HY1.out]; rfl) (bytesV_one _) ?_
               intro p3 hK hb
               have Hp3 := Lib.hid (Hp2.out.below hb); have HK1 := Lib.hid hK; have tok1c := True.intro
               have hcs := run_string_len (P := Tryz.prog) p3 26 5 9 Tryz.underlying26 Tryz.underlying5 Tryz.underlying9 p2.heap.size 0 32 32 r1.data.toList (by rw [len_list, HZ1.out]) (Bytes.of_blk hK)
               have cs1 : (convert 26 9 (.slice (some ⟨p2.heap.size, 0, none⟩) 32 32)).run Tryz.prog p3 = .ok (.string r1) p3 := hcs
               clear hcs
               clear hK hb _t tok1b)
            | (go_at_call 12; have _t := tok1c; refine (HC0.out _ Hp3.out.bel).mono ?_; rintro e p4 ⟨rfl, rfl⟩; skip; have Hp5 := Lib.hid Hp3.out; have tok2 := True.intro; clear _t tok1c)
            | (go_at_call 11; have _t := tok2; refine (HO2.out _).mono ?_; rintro e q1 ⟨rfl, hb⟩; skip; have Hq1 := Lib.hid (Hp5.out.below hb); clear hb _t tok2)
            | (go_at_call 9; refine (HG2.out _ Hq1.out.bel).mono ?_; rintro e q2 ⟨rfl, hb⟩; skip; have Hq2 := Lib.hid (Hq1.out.below hb); have tok2b := True.intro; clear hb)
            | (have _t := tok2b; refine Rg.store_fresh rfl 25 _ _ rfl (bytesV r2.data.toList) _ 25 rfl rfl (by rw [HY2.out]; kernel_rfl) (by rw [HY2.out]; rfl) (bytesV_one _) ?_
               intro q3 hK hb
               have Hq3 := Lib.hid (Hq2.out.below hb); have HK2 := Lib.hid hK; have tok2c := True.intro
               have hcs := run_string_len (P := Tryz.prog) q3 26 5 9 Tryz.underlying26 Tryz.underlying5 Tryz.underlying9 q2.heap.size 0 64 64 r2.data.toList (by rw [len_list, HZ2.out]) (Bytes.of_blk hK)
               have cs2 : (convert 26 9 (.slice (some ⟨q2.heap.size, 0, none⟩) 64 64)).run Tryz.prog q3 = .ok (.string r2) q3 := hcs
               clear hcs
               clear hK hb _t tok2b)
            | (go_at_call 12; have _t := tok2c; refine (HC0.out _ Hq3.out.bel).mono ?_; rintro e q4 ⟨rfl, rfl⟩; skip; have Hq5 := Lib.hid Hq3.out; clear _t tok2c))
          go_roundw
          case rel =>
            first
              | exact ⟨k + 1, by omega, by go_num, Hq5.out⟩
              | ((repeat apply Exists.intro); refine ⟨?_, rfl⟩; exact ⟨k + 1, by omega, by go_num, Hq5.out⟩)
          case measure => (first | (simp [intOf]; done) | (simp [intOf]; omega))
        · skip
          have HG2 := Lib.hid (show ∀ W, Below w.heap.size w W → Calls Tryz.prog 9 #[.string x] W fun e w' => ∃ fb, e = .returned (.tuple #[.agg (bytesV (zB 64)), .iface 63 (.pointer (some ⟨fb, 0, none⟩))]) ∧ Rg.Blk w' fb 67 #[.string ⟨#[115, 105, 103, 110, 97, 116, 117, 114, 101]⟩, .iface 162 (.pointer (some (a c2)))] ∧ Below W.heap.size W w' from fun W hW => by
            have := BlobSign_bad W a (HE.out.below hW) x (by omega) (by rw [hc2]; exact hz2)
            rw [hc2] at this; exact this)
          have HY2 := Lib.hid (show (bytesV (zB 64)).size = 64 by rw [bytesV_size, zB_length])
          have HCD2 := Lib.hid (fun W (hW : Below w.heap.size w W) fb (h : Rg.Blk W fb 67 #[.string ⟨#[115, 105, 103, 110, 97, 116, 117, 114, 101]⟩, .iface 162 (.pointer (some (a c2)))]) => Ei.Code_fault W a (HE.out.below hW) c2 (by omega) hl2 fb _ h)
          have HWH2 := Lib.hid (fun W (hW : Below w.heap.size w W) fb (h : Rg.Blk W fb 67 #[.string ⟨#[115, 105, 103, 110, 97, 116, 117, 114, 101]⟩, .iface 162 (.pointer (some (a c2)))]) => Ei.Where_fault W (HG.out.below hW) fb _ _ h)
          have hn2 : ((c2 : Int) == 0) = false := by rw [beq_eq_false_iff_ne]; omega
          have hn2b : ((c2 : Int) != 0) = true := by rw [bne, hn2]; rfl
          have hn2c : ¬ (c2 : Int) = 0 := by omega
          have hn2d : ¬ c2 = 0 := hz2
          clear hc1 hc2 hr1 hr2 hl1 hl2 hxs hz2
          have tok1 := True.intro
          go_wp2_with (first
            | (go_at_call 11; have _t := tok1; refine (HO1.out _).mono ?_; rintro e p1 ⟨rfl, hb⟩; skip; have Hp1 := Lib.hid (HM.out.below hb); clear hb _t tok1)
            | (go_at_call 8; refine (HG1.out _ Hp1.out.bel).mono ?_; rintro e p2 ⟨rfl, hb⟩; skip; have Hp2 := Lib.hid (Hp1.out.below hb); have tok1b := True.intro; clear hb)
            | (have _t := tok1b; refine Rg.store_fresh rfl 22 _ _ rfl (bytesV r1.data.toList) _ 22 rfl rfl (by rw [HY1.out]; kernel_rfl) (by rw [HY1.out]; rfl) (bytesV_one _) ?_
               intro p3 hK hb
               have Hp3 := Lib.hid (Hp2.out.below hb); have HK1 := Lib.hid hK; have tok1c := True.intro
               have hcs := run_string_len (P := Tryz.prog) p3 26 5 9 Tryz.underlying26 Tryz.underlying5 Tryz.underlying9 p2.heap.size 0 32 32 r1.data.toList (by rw [len_list, HZ1.out]) (Bytes.of_blk hK)
               have cs1 : (convert 26 9 (.slice (some ⟨p2.heap.size, 0, none⟩) 32 32)).run Tryz.prog p3 = .ok (.string r1) p3 := hcs
               clear hcs
               clear hK hb _t tok1b)
            | (go_at_call 12; have _t := tok1c; refine (HC0.out _ Hp3.out.bel).mono ?_; rintro e p4 ⟨rfl, rfl⟩; skip; have Hp5 := Lib.hid Hp3.out; have tok2 := True.intro; clear _t tok1c)
            | (go_at_call 11; have _t := tok2; refine (HO2.out _).mono ?_; rintro e q1 ⟨rfl, hb⟩; skip; have Hq1 := Lib.hid (Hp5.out.below hb); clear hb _t tok2)
            | (go_at_call 9; refine (HG2.out _ Hq1.out.bel).mono ?_; rintro e q2 ⟨qf, rfl, hf, hb⟩; skip; have Hq2 := Lib.hid (Hq1.out.below hb); have HFq2 := Lib.hid hf; have tok2b := True.intro; clear hf hb)
            | (have _t := tok2b; refine Rg.store_fresh rfl 25 _ _ rfl (bytesV (zB 64)) _ 25 rfl rfl (by rw [HY2.out]; kernel_rfl) (by rw [HY2.out]; rfl) (bytesV_one _) ?_
               intro q3 hK hb
               have Hq3 := Lib.hid (Hq2.out.below hb); have HK2 := Lib.hid hK; have tok2c := True.intro
               have HFq3 := Lib.hid (HFq2.out.below hb HFq2.out.lt)
               clear hK hb _t tok2b)
            | (go_at_call 12; have _t := tok2c; refine (HCD2.out _ Hq3.out.bel _ HFq3.out).mono ?_; rintro e q4 ⟨rfl, rfl⟩; skip; have e2 := HQ4.out q3; have Hq5 := Lib.hid Hq3.out; clear _t tok2c)
            | (refine load_blk_g (by rfl) 25 _ rfl q2.heap.size (bytesV (zB 64)) 25 rfl HK2.out Tryz.underlying25 rfl (by rw [HY2.out]; kernel_rfl) ?_; skip))
          go_roundw
          case rel =>
            first
              | exact ⟨k + 1, by omega, by go_num, Hq5.out⟩
              | ((repeat apply Exists.intro); refine ⟨?_, rfl⟩; exact ⟨k + 1, by omega, by go_num, Hq5.out⟩)
          case measure => (first | (simp [intOf]; done) | (simp [intOf]; omega))
      · have HG1 := Lib.hid (show ∀ W, Below w.heap.size w W → Calls Tryz.prog 8 #[.string x] W fun e w' => ∃ fb, e = .returned (.tuple #[.agg (bytesV (zB 32)), .iface 63 (.pointer (some ⟨fb, 0, none⟩))]) ∧ Rg.Blk w' fb 67 #[.string ⟨#[107, 101, 121]⟩, .iface 162 (.pointer (some (a c1)))] ∧ Below W.heap.size W w' from fun W hW => by
          have := BlobKey_bad W a (HE.out.below hW) x (by omega) (by rw [hc1]; exact hz1)
          rw [hc1] at this; exact this)
        have HY1 := Lib.hid (show (bytesV (zB 32)).size = 32 by rw [bytesV_size, zB_length])
        have HCD1 := Lib.hid (fun W (hW : Below w.heap.size w W) fb (h : Rg.Blk W fb 67 #[.string ⟨#[107, 101, 121]⟩, .iface 162 (.pointer (some (a c1)))]) => Ei.Code_fault W a (HE.out.below hW) c1 (by omega) hl1 fb _ h)
        have HWH1 := Lib.hid (fun W (hW : Below w.heap.size w W) fb (h : Rg.Blk W fb 67 #[.string ⟨#[107, 101, 121]⟩, .iface 162 (.pointer (some (a c1)))]) => Ei.Where_fault W (HG.out.below hW) fb _ _ h)
        have hn1 : ((c1 : Int) == 0) = false := by rw [beq_eq_false_iff_ne]; omega
        have hn1b : ((c1 : Int) != 0) = true := by rw [bne, hn1]; rfl
        have hn1c : ¬ (c1 : Int) = 0 := by omega
        have hn1d : ¬ c1 = 0 := hz1
        by_cases hz2 : c2 = 0
        · skip
          obtain rfl : c2 = 0 := hz2
          have hz2s : r2.size = 64 ∧ r2 = opX x := by rw [← hr2]; exact opR_size x 64 11 (by decide) hc2
          have HG2 := Lib.hid (show ∀ W, Below w.heap.size w W → Calls Tryz.prog 9 #[.string x] W fun e w' => e = .returned (.tuple #[.agg (bytesV r2.data.toList), .nilIface]) ∧ Below W.heap.size W w' from fun W hW => by
            have := BlobSign_ok W a (HE.out.below hW) x (by omega) hc2
            rw [← hz2s.2] at this; exact this)
          have HZ2 := Lib.hid hz2s.1
          have HY2 := Lib.hid (show (bytesV r2.data.toList).size = 64 by rw [bytesV_size, len_list, hz2s.1])
          clear hz2s
          clear hc1 hc2 hr1 hr2 hl1 hl2 hxs hz1
          have tok1 := True.intro
          go_wp2_with (first
            | (go_at_call 11; have _t := tok1; refine (HO1.out _).mono ?_; rintro e p1 ⟨rfl, hb⟩; skip; have Hp1 := Lib.hid (HM.out.below hb); clear hb _t tok1)
            | (go_at_call 8; refine (HG1.out _ Hp1.out.bel).mono ?_; rintro e p2 ⟨pf, rfl, hf, hb⟩; skip; have Hp2 := Lib.hid (Hp1.out.below hb); have HFp2 := Lib.hid hf; have tok1b := True.intro; clear hf hb)
            | (have _t := tok1b; refine Rg.store_fresh rfl 22 _ _ rfl (bytesV (zB 32)) _ 22 rfl rfl (by rw [HY1.out]; kernel_rfl) (by rw [HY1.out]; rfl) (bytesV_one _) ?_
               intro p3 hK hb
               have Hp3 := Lib.hid (Hp2.out.below hb); have HK1 := Lib.hid hK; have tok1c := True.intro
               have HFp3 := Lib.hid (HFp2.out.below hb HFp2.out.lt)
               clear hK hb _t tok1b)
            | (go_at_call 12; have _t := tok1c; refine (HCD1.out _ Hp3.out.bel _ HFp3.out).mono ?_; rintro e p4 ⟨rfl, rfl⟩; skip; have e1 := HQ3.out p3; clear _t tok1c)
            | (refine load_blk_g (by rfl) 22 _ rfl p2.heap.size (bytesV (zB 32)) 22 rfl HK1.out Tryz.underlying22 rfl (by rw [HY1.out]; kernel_rfl) ?_; skip)
            | (go_at_call 13; refine (HWH1.out _ Hp3.out.bel _ HFp3.out).mono ?_; rintro e p5 ⟨rfl, hb⟩; skip; have Hp5 := Lib.hid (Hp3.out.below hb); have tok2 := True.intro; clear hb)
            | (go_at_call 11; have _t := tok2; refine (HO2.out _).mono ?_; rintro e q1 ⟨rfl, hb⟩; skip; have Hq1 := Lib.hid (Hp5.out.below hb); clear hb _t tok2)
            | (go_at_call 9; refine (HG2.out _ Hq1.out.bel).mono ?_; rintro e q2 ⟨rfl, hb⟩; skip; have Hq2 := Lib.hid (Hq1.out.below hb); have tok2b := True.intro; clear hb)
            | (have _t := tok2b; refine Rg.store_fresh rfl 25 _ _ rfl (bytesV r2.data.toList) _ 25 rfl rfl (by rw [HY2.out]; kernel_rfl) (by rw [HY2.out]; rfl) (bytesV_one _) ?_
               intro q3 hK hb
               have Hq3 := Lib.hid (Hq2.out.below hb); have HK2 := Lib.hid hK; have tok2c := True.intro
               have hcs := run_string_len (P := Tryz.prog) q3 26 5 9 Tryz.underlying26 Tryz.underlying5 Tryz.underlying9 q2.heap.size 0 64 64 r2.data.toList (by rw [len_list, HZ2.out]) (Bytes.of_blk hK)
               have cs2 : (convert 26 9 (.slice (some ⟨q2.heap.size, 0, none⟩) 64 64)).run Tryz.prog q3 = .ok (.string r2) q3 := hcs
               clear hcs
               clear hK hb _t tok2b)
            | (go_at_call 12; have _t := tok2c; refine (HC0.out _ Hq3.out.bel).mono ?_; rintro e q4 ⟨rfl, rfl⟩; skip; have Hq5 := Lib.hid Hq3.out; clear _t tok2c))
          go_roundw
          case rel =>
            first
              | exact ⟨k + 1, by omega, by go_num, Hq5.out⟩
              | ((repeat apply Exists.intro); refine ⟨?_, rfl⟩; exact ⟨k + 1, by omega, by go_num, Hq5.out⟩)
          case measure => (first | (simp [intOf]; done) | (simp [intOf]; omega))
        · skip
          have HG2 := Lib.hid (show ∀ W, Below w.heap.size w W → Calls Tryz.prog 9 #[.string x] W fun e w' => ∃ fb, e = .returned (.tuple #[.agg (bytesV (zB 64)), .iface 63 (.pointer (some ⟨fb, 0, none⟩))]) ∧ Rg.Blk w' fb 67 #[.string ⟨#[115, 105, 103, 110, 97, 116, 117, 114, 101]⟩, .iface 162 (.pointer (some (a c2)))] ∧ Below W.heap.size W w' from fun W hW => by
            have := BlobSign_bad W a (HE.out.below hW) x (by omega) (by rw [hc2]; exact hz2)
            rw [hc2] at this; exact this)
          have HY2 := Lib.hid (show (bytesV (zB 64)).size = 64 by rw [bytesV_size, zB_length])
          have HCD2 := Lib.hid (fun W (hW : Below w.heap.size w W) fb (h : Rg.Blk W fb 67 #[.string ⟨#[115, 105, 103, 110, 97, 116, 117, 114, 101]⟩, .iface 162 (.pointer (some (a c2)))]) => Ei.Code_fault W a (HE.out.below hW) c2 (by omega) hl2 fb _ h)
          have HWH2 := Lib.hid (fun W (hW : Below w.heap.size w W) fb (h : Rg.Blk W fb 67 #[.string ⟨#[115, 105, 103, 110, 97, 116, 117, 114, 101]⟩, .iface 162 (.pointer (some (a c2)))]) => Ei.Where_fault W (HG.out.below hW) fb _ _ h)
          have hn2 : ((c2 : Int) == 0) = false := by rw [beq_eq_false_iff_ne]; omega
          have hn2b : ((c2 : Int) != 0) = true := by rw [bne, hn2]; rfl
          have hn2c : ¬ (c2 : Int) = 0 := by omega
          have hn2d : ¬ c2 = 0 := hz2
          clear hc1 hc2 hr1 hr2 hl1 hl2 hxs hz1 hz2
          have tok1 := True.intro
          go_wp2_with (first
            | (go_at_call 11; have _t := tok1; refine (HO1.out _).mono ?_; rintro e p1 ⟨rfl, hb⟩; skip; have Hp1 := Lib.hid (HM.out.below hb); clear hb _t tok1)
            | (go_at_call 8; refine (HG1.out _ Hp1.out.bel).mono ?_; rintro e p2 ⟨pf, rfl, hf, hb⟩; skip; have Hp2 := Lib.hid (Hp1.out.below hb); have HFp2 := Lib.hid hf; have tok1b := True.intro; clear hf hb)
            | (have _t := tok1b; refine Rg.store_fresh rfl 22 _ _ rfl (bytesV (zB 32)) _ 22 rfl rfl (by rw [HY1.out]; kernel_rfl) (by rw [HY1.out]; rfl) (bytesV_one _) ?_
               intro p3 hK hb
               have Hp3 := Lib.hid (Hp2.out.below hb); have HK1 := Lib.hid hK; have tok1c := True.intro
               have HFp3 := Lib.hid (HFp2.out.below hb HFp2.out.lt)
               clear hK hb _t tok1b)
            | (go_at_call 12; have _t := tok1c; refine (HCD1.out _ Hp3.out.bel _ HFp3.out).mono ?_; rintro e p4 ⟨rfl, rfl⟩; skip; have e1 := HQ3.out p3; clear _t tok1c)
            | (refine load_blk_g (by rfl) 22 _ rfl p2.heap.size (bytesV (zB 32)) 22 rfl HK1.out Tryz.underlying22 rfl (by rw [HY1.out]; kernel_rfl) ?_; skip)
            | (go_at_call 13; refine (HWH1.out _ Hp3.out.bel _ HFp3.out).mono ?_; rintro e p5 ⟨rfl, hb⟩; skip; have Hp5 := Lib.hid (Hp3.out.below hb); have tok2 := True.intro; clear hb)
            | (go_at_call 11; have _t := tok2; refine (HO2.out _).mono ?_; rintro e q1 ⟨rfl, hb⟩; skip; have Hq1 := Lib.hid (Hp5.out.below hb); clear hb _t tok2)
            | (go_at_call 9; refine (HG2.out _ Hq1.out.bel).mono ?_; rintro e q2 ⟨qf, rfl, hf, hb⟩; skip; have Hq2 := Lib.hid (Hq1.out.below hb); have HFq2 := Lib.hid hf; have tok2b := True.intro; clear hf hb)
            | (have _t := tok2b; refine Rg.store_fresh rfl 25 _ _ rfl (bytesV (zB 64)) _ 25 rfl rfl (by rw [HY2.out]; kernel_rfl) (by rw [HY2.out]; rfl) (bytesV_one _) ?_
               intro q3 hK hb
               have Hq3 := Lib.hid (Hq2.out.below hb); have HK2 := Lib.hid hK; have tok2c := True.intro
               have HFq3 := Lib.hid (HFq2.out.below hb HFq2.out.lt)
               clear hK hb _t tok2b)
            | (go_at_call 12; have _t := tok2c; refine (HCD2.out _ Hq3.out.bel _ HFq3.out).mono ?_; rintro e q4 ⟨rfl, rfl⟩; skip; have e2 := HQ4.out q3; have Hq5 := Lib.hid Hq3.out; clear _t tok2c)
            | (refine load_blk_g (by rfl) 25 _ rfl q2.heap.size (bytesV (zB 64)) 25 rfl HK2.out Tryz.underlying25 rfl (by rw [HY2.out]; kernel_rfl) ?_; skip))
          go_roundw
          case rel =>
            first
              | exact ⟨k + 1, by omega, by go_num, Hq5.out⟩
              | ((repeat apply Exists.intro); refine ⟨?_, rfl⟩; exact ⟨k + 1, by omega, by go_num, Hq5.out⟩)
          case measure => (first | (simp [intOf]; done) | (simp [intOf]; omega))
    · obtain rfl : k = 4 := by omega
      have hd : decide (4 < 4) = false := by decide
      go_wp2_with fail
      go_ret
      exact ⟨rfl, HM.out.bel⟩
theorem law_MessageBlobs2 (w : World) (l : List UInt8) (hl : l.length = 32) (s : ByteArray) (n : Int) (hn : (Lit.int .i64 n).wf = true) (a : Nat → Addr) (hE : Ei.ErrsAll w a) (hT : Mg.TabR w) (hG : Ei.ErrTy w) (hM : ∃ m, w.cell? ⟨22, 0, none⟩ = some (.int .i64 m)) :
    Calls Tryz.prog 3 #[.agg (bv l).toArray, .string s, .int .i64 n] w fun e w' => e = .returned (.bool true) ∧ Below w.heap.size w w' := by
  rw [← bytesV_bv]
  exact law_MessageBlobs w l hl s n hn a hE hT hG hM
end Go.Proofs.YtjfikbnfabdkoaaGreatDoor.Bl
