/- kex.Keys. -/
import Derived.Test.YtfaeigbfnjkojaaGreatDoorKxX
import Derived.Deep.MidRow
import Derived.Lib.SlBytesConst
set_option linter.unusedVariables false
set_option linter.unusedSimpArgs false
namespace Go.Proofs.YtfaeigbfnjkojaaGreatDoor.Kx
open Go.RowKit Go.Proofs.YtfaeigbfnjkojaaGreatDoor.Cl
/-- bytes written over others, from o on -/
def putL : List UInt8 → Nat → List UInt8 → List UInt8
  | l, _, [] => l
  | l, o, x :: r => putL (l.set o x) (o + 1) r
theorem putL_len : ∀ (r : List UInt8) (l : List UInt8) (o : Nat), (putL l o r).length = l.length
  | [], _, _ => rfl
  | x :: r, l, o => by rw [putL, putL_len r, List.length_set]
theorem putL_eq : ∀ (r l : List UInt8) (o : Nat), o + r.length ≤ l.length → putL l o r = l.take o ++ r ++ l.drop (o + r.length)
  | [], l, o, _ => by simp [putL]
  | x :: r, l, o, h => by
    rw [List.length_cons] at h
    rw [putL, putL_eq r _ _ (by rw [List.length_set]; omega), List.length_cons, List.take_set, List.drop_set_of_lt (by omega)]
    rw [show o + 1 + r.length = o + (r.length + 1) by omega]
    have ho : o < l.length := by omega
    congr 1
    rw [List.take_add_one, List.getElem?_eq_getElem ho, Option.toList_some]
    rw [List.set_append_right _ _ (by rw [List.length_take]; omega)]
    rw [List.length_take, Nat.min_eq_left (by omega), Nat.sub_self]
    simp
theorem setCells_bytes {w : World} {b T : Nat} : ∀ (d l : List UInt8) (o : Nat) (w : World), Rg.Blk w b T (Cv.bytesV l) → Rg.Blk (w.setCells b o (Lib.byteCells d)) b T (Cv.bytesV (putL l o d)) ∧ w.grownBy (w.setCells b o (Lib.byteCells d)) (some b)
  | [], l, o, w, h => ⟨h, ⟨rfl, rfl, rfl, Nat.le_refl _, fun _ _ _ => rfl⟩⟩
  | x :: r, l, o, w, h => by
    have h1 : Rg.Blk (w.setCell ⟨b, o, none⟩ (.int .u8 (x.toNat : Int))) b T (Cv.bytesV (l.set o x)) := by
      have h2 := h
      unfold Rg.Blk at *
      rw [heap_setCell_same w b o _ _ _ h2, Cv.bytesV_set]
    have h3 := setCells_bytes (w := w) r (l.set o x) (o + 1) _ h1
    exact ⟨h3.1, (grown_setCell w b o _).trans h3.2⟩
/-- an array of bytes stored into a part of a block of bytes: the world behind it has a name -/
theorem store_part {P : Program} {ops : Array Oper} {rest : List Oper} {o : Oper} {a : Act} {w : World} {Q : Exit → Act → World → Prop} (hgd : o.guard = none) (ty : TypeId) (x y : Operand) (ho : o.op = .store ty x y)
    (b off T : Nat) (l d : List UInt8) (hx : a.eval x = .pointer (some ⟨b, off, none⟩)) (hy : a.eval y = .agg (Cv.bytesV d)) (hB : Rg.Blk w b T (Cv.bytesV l)) (hl : off + d.length ≤ l.length) (hi : (P.info? ty).map (·.size) = some d.length)
    (h : ∀ X, Rg.Blk X b T (Cv.bytesV (putL l off d)) → w.grownBy X (some b) → wpList P ops Q rest (a.put o.dst undef) X) : wpList P ops Q (o :: rest) a w := by
  have hs : (Cv.bytesV d).size = d.length := Cv.bytesV_size d
  have h3 := setCells_bytes (w := w) (T := T) d l off w hB
  have e : (Cv.bytesV d).toList = Lib.byteCells d := by unfold Cv.bytesV; rfl
  refine wpList_store_mid hgd ty x y ho b off (Cv.bytesV d) hx hy (fun j hj => ?_) (by rw [hs]; exact hi) (Cv.bytesV_one d) (by rw [e]; exact h _ h3.1 h3.2)
  rw [hs] at hj
  have hj' : off + j < l.length := by omega
  exact ⟨by rw [hB.cell (off + j) (Cv.bytesV_get l (off + j) l[off + j] (List.getElem?_eq_getElem hj'))]; rfl, hB.frozen _⟩
def Z64 : Array Value := (#[.int .u8 0, .int .u8 0, .int .u8 0, .int .u8 0, .int .u8 0, .int .u8 0, .int .u8 0, .int .u8 0, .int .u8 0, .int .u8 0, .int .u8 0, .int .u8 0, .int .u8 0, .int .u8 0, .int .u8 0, .int .u8 0, .int .u8 0, .int .u8 0, .int .u8 0, .int .u8 0, .int .u8 0, .int .u8 0, .int .u8 0, .int .u8 0, .int .u8 0, .int .u8 0, .int .u8 0, .int .u8 0, .int .u8 0, .int .u8 0, .int .u8 0, .int .u8 0, .int .u8 0, .int .u8 0, .int .u8 0, .int .u8 0, .int .u8 0, .int .u8 0, .int .u8 0, .int .u8 0, .int .u8 0, .int .u8 0, .int .u8 0, .int .u8 0, .int .u8 0, .int .u8 0, .int .u8 0, .int .u8 0, .int .u8 0, .int .u8 0, .int .u8 0, .int .u8 0, .int .u8 0, .int .u8 0, .int .u8 0, .int .u8 0, .int .u8 0, .int .u8 0, .int .u8 0, .int .u8 0, .int .u8 0, .int .u8 0, .int .u8 0, .int .u8 0] : Array Value)
theorem z64_eq : Cv.bytesV (List.replicate 64 0) = Z64 := by
  unfold Cv.bytesV
  rfl
theorem tables_grown {w w' : World} {b : Nat} (h : Sha.Tables w) (hg : w.grownBy w' (some b)) (hb : 23 ≤ b) : Sha.Tables w' :=
  h.below (B := 23) ⟨hg.os, hg.tape, hg.output, hg.size, fun k hk => hg.block k (Nat.lt_of_lt_of_le hk h.size) (fun e => by injection e with e; omega)⟩ (Nat.le_refl _)
def kst (d1 d2 : List UInt8) : Nat → List UInt8
  | 0 => List.replicate 64 0
  | 1 => putL (List.replicate 64 0) 0 d1
  | _ => putL (putL (List.replicate 64 0) 0 d1) 32 d2
theorem kst_end (d1 d2 : List UInt8) (h1 : d1.length = 32) (h2 : d2.length = 32) : kst d1 d2 2 = d1 ++ d2 := by
  show putL (putL (List.replicate 64 0) 0 d1) 32 d2 = _
  rw [putL_eq d1 _ 0 (by rw [h1, List.length_replicate]; decide), putL_eq d2 _ 32 (by simp [h1, h2]), h1, h2]
  simp [h1]
def CL (w : World) (b : Nat) : Prop := w.heap[b]? = some (.cells #[.int .u8 67, .int .u8 68] 5 (2, 3))
theorem CL.below {w w' : World} {b B : Nat} (h : CL w b) (hb : Below B w w') (hB : b < B) : CL w' b := by
  unfold CL at *
  rw [hb.block b hB]; exact h
theorem CL.lt {w : World} {b : Nat} (h : CL w b) : b < w.heap.size := (Array.getElem?_eq_some_iff.1 h).1
theorem CL.other {w w' : World} {b g : Nat} (h : CL w b) (hg : w.grownBy w' (some g)) (hn : g ≠ b) : CL w' b := by
  have hl := h.lt
  unfold CL at *
  rw [hg.block b hl (fun e => hn (Option.some.inj e).symm)]; exact h
theorem CL.c0 {w : World} {b : Nat} (h : CL w b) : w.cell? ⟨b, 0, none⟩ = some (.int .u8 67) := by unfold CL at h; simp [World.cell?, h]
theorem CL.c1 {w : World} {b : Nat} (h : CL w b) : w.cell? ⟨b, 1, none⟩ = some (.int .u8 68) := by unfold CL at h; simp [World.cell?, h]
/-- both keys -/
def keysL (s h i : List UInt8) : List UInt8 := derL s h i 67 32 ++ derL s h i 68 32
theorem keysL_len (s h i : List UInt8) : (keysL s h i).length = 64 := by unfold keysL; rw [List.length_append, derL_len, derL_len]
set_option maxRecDepth 20000 in
set_option maxHeartbeats 2000000 in
theorem Keys_any (w : World) (s h i : List UInt8) (hs : s.length = 32) (hh : h.length = 32) (hi : i.length = 32) (hT : Sha.Tables w) :
    Calls Tryz.prog 12 #[.agg (Cv.bytesV s), .agg (Cv.bytesV h), .agg (Cv.bytesV i)] w fun e w' => e = .returned (.agg (Cv.bytesV (keysL s h i))) ∧ Below w.heap.size w w' := by
  obtain ⟨d1, hd1⟩ : ∃ l, derL s h i 67 32 = l := ⟨_, rfl⟩
  obtain ⟨d2, hd2⟩ : ∃ l, derL s h i 68 32 = l := ⟨_, rfl⟩
  obtain ⟨D1, hD1⟩ : ∃ l : ByteArray, (⟨d1.toArray⟩ : ByteArray) = l := ⟨_, rfl⟩
  obtain ⟨D2, hD2⟩ : ∃ l : ByteArray, (⟨d2.toArray⟩ : ByteArray) = l := ⟨_, rfl⟩
  have HD1L := Lib.hid (show d1.length = 32 from by rw [← hd1, derL_len])
  have HD2L := Lib.hid (show d2.length = 32 from by rw [← hd2, derL_len])
  have HD1 := Lib.hid (show (D1.size = 32 ∧ D1.data.toList = d1) ∧ (∀ W, Sha.Tables W → Calls Tryz.prog 11 #[.agg (Cv.bytesV s), .agg (Cv.bytesV h), .agg (Cv.bytesV i), .int .u8 67, .int .i64 32] W fun e w' => e = .returned (.string D1) ∧ Below W.heap.size W w') from ⟨⟨by rw [← hD1]; show d1.toArray.size = 32; simp [HD1L.out], by rw [← hD1]⟩, fun W hW => by
    have := Derive_any W s h i hs hh hi 67 32 (by decide) hW
    rwa [show (32 : Int).toNat = 32 from rfl, hd1, hD1] at this⟩)
  have HD2 := Lib.hid (show (D2.size = 32 ∧ D2.data.toList = d2) ∧ (∀ W, Sha.Tables W → Calls Tryz.prog 11 #[.agg (Cv.bytesV s), .agg (Cv.bytesV h), .agg (Cv.bytesV i), .int .u8 68, .int .i64 32] W fun e w' => e = .returned (.string D2) ∧ Below W.heap.size W w') from ⟨⟨by rw [← hD2]; show d2.toArray.size = 32; simp [HD2L.out], by rw [← hD2]⟩, fun W hW => by
    have := Derive_any W s h i hs hh hi 68 32 (by decide) hW
    rwa [show (32 : Int).toNat = 32 from rfl, hd2, hD2] at this⟩)
  have HRES := Lib.hid (show keysL s h i = d1 ++ d2 from by unfold keysL; rw [hd1, hd2])
  have HLsb := Lib.hid hs
  have HLhb := Lib.hid hh
  have HLib := Lib.hid hi
  have HTS := Lib.hid hT.size
  have HT := Lib.hid hT
  clear hs hh hi hT hd1 hd2 hD1 hD2
  go_enter Tryz.func12, Tryz.ntmps12
  have tok1 := True.intro
  go_upto_region 1 with (first
    | (have _t := tok1; (with_reducible refine gate_ ?_); refine Rg.box_fresh rfl 22 _ rfl (Cv.bytesV s) rfl ?_; intro X hX hbX hnX; have HX := Lib.hid hX; have HBX := Lib.hid hbX; have HNX := Lib.hid hnX; clear hX hbX hnX; have tok2 := True.intro; clear _t tok1)
    | (have _t := tok2; (with_reducible refine gate_ ?_); refine Rg.box_fresh rfl 22 _ rfl (Cv.bytesV h) rfl ?_; intro X2 hX hbX hnX; have HX2 := Lib.hid hX; have HBX2 := Lib.hid hbX; have HNX2 := Lib.hid hnX; clear hX hbX hnX; have tok3 := True.intro; clear _t tok2)
    | (have _t := tok3; (with_reducible refine gate_ ?_); refine Rg.box_fresh rfl 22 _ rfl (Cv.bytesV i) rfl ?_; intro X3 hX hbX hnX; have HX3 := Lib.hid hX; have HBX3 := Lib.hid hbX; have HNX3 := Lib.hid hnX; clear hX hbX hnX; clear _t tok3))
  obtain ⟨sb, hsb⟩ : ∃ n, w.heap.size = n := ⟨_, rfl⟩
  obtain ⟨hb, hhb⟩ : ∃ n, X.heap.size = n := ⟨_, rfl⟩
  obtain ⟨ib, hib⟩ : ∃ n, X2.heap.size = n := ⟨_, rfl⟩
  obtain ⟨rb, hrb⟩ : ∃ n, X3.heap.size = n := ⟨_, rfl⟩
  have HS := Lib.hid (show Rg.Blk X3 sb 22 (Cv.bytesV s) from (((hsb ▸ HX.out).below HBX2.out (by rw [← hsb]; exact HX.out.lt)).below HBX3.out (by have := HNX2.out; have := HNX.out; omega)))
  have HH := Lib.hid (show Rg.Blk X3 hb 22 (Cv.bytesV h) from ((hhb ▸ HX2.out).below HBX3.out (by rw [← hhb]; exact HX2.out.lt)))
  have HI := Lib.hid (show Rg.Blk X3 ib 22 (Cv.bytesV i) from hib ▸ HX3.out)
  have HB := Lib.hid (show Below sb w X3 from hsb ▸ ((HBX.out.trans (HBX2.out.mono HBX.out.size)).trans (HBX3.out.mono (by have := HNX.out; have := HNX2.out; omega))))
  have HNN := Lib.hid (show sb < rb ∧ hb < rb ∧ ib < rb from by have h1 := HNX.out; have h2 := HNX2.out; have h3 := HNX3.out; omega)
  have HT := Lib.hid (HT.out.below HB.out (by rw [← hsb]; exact HT.out.size))
  have HTZ := Lib.hid (show 23 ≤ sb from by rw [← hsb]; exact HTS.out)
  have HKB := Lib.hid hsb
  try rw [hsb]
  try rw [hhb]
  try rw [hib]
  try rw [hrb]
  obtain ⟨kb, hkb⟩ : ∃ n, rb + 1 = n := ⟨_, rfl⟩
  obtain ⟨cb, hcb⟩ : ∃ n, kb + 1 = n := ⟨_, rfl⟩
  have hcv : (convert 36 36 (.slice (some ⟨cb, 0, none⟩) 2 2)).run Tryz.prog (((X3.alloc (.cells (#[.int .u8 0, .int .u8 0, .int .u8 0, .int .u8 0, .int .u8 0, .int .u8 0, .int .u8 0, .int .u8 0, .int .u8 0, .int .u8 0, .int .u8 0, .int .u8 0, .int .u8 0, .int .u8 0, .int .u8 0, .int .u8 0, .int .u8 0, .int .u8 0, .int .u8 0, .int .u8 0, .int .u8 0, .int .u8 0, .int .u8 0, .int .u8 0, .int .u8 0, .int .u8 0, .int .u8 0, .int .u8 0, .int .u8 0, .int .u8 0, .int .u8 0, .int .u8 0, .int .u8 0, .int .u8 0, .int .u8 0, .int .u8 0, .int .u8 0, .int .u8 0, .int .u8 0, .int .u8 0, .int .u8 0, .int .u8 0, .int .u8 0, .int .u8 0, .int .u8 0, .int .u8 0, .int .u8 0, .int .u8 0, .int .u8 0, .int .u8 0, .int .u8 0, .int .u8 0, .int .u8 0, .int .u8 0, .int .u8 0, .int .u8 0, .int .u8 0, .int .u8 0, .int .u8 0, .int .u8 0, .int .u8 0, .int .u8 0, .int .u8 0, .int .u8 0]) 33)).alloc (.cells (#[.int .u8 0, .int .u8 0, .int .u8 0, .int .u8 0, .int .u8 0, .int .u8 0, .int .u8 0, .int .u8 0, .int .u8 0, .int .u8 0, .int .u8 0, .int .u8 0, .int .u8 0, .int .u8 0, .int .u8 0, .int .u8 0, .int .u8 0, .int .u8 0, .int .u8 0, .int .u8 0, .int .u8 0, .int .u8 0, .int .u8 0, .int .u8 0, .int .u8 0, .int .u8 0, .int .u8 0, .int .u8 0, .int .u8 0, .int .u8 0, .int .u8 0, .int .u8 0, .int .u8 0, .int .u8 0, .int .u8 0, .int .u8 0, .int .u8 0, .int .u8 0, .int .u8 0, .int .u8 0, .int .u8 0, .int .u8 0, .int .u8 0, .int .u8 0, .int .u8 0, .int .u8 0, .int .u8 0, .int .u8 0, .int .u8 0, .int .u8 0, .int .u8 0, .int .u8 0, .int .u8 0, .int .u8 0, .int .u8 0, .int .u8 0, .int .u8 0, .int .u8 0, .int .u8 0, .int .u8 0, .int .u8 0, .int .u8 0, .int .u8 0, .int .u8 0]) 33)).alloc (.cells #[.int .u8 67, .int .u8 68] 5)) = .ok (.slice (some ⟨cb, 0, none⟩) 2 2) (((X3.alloc (.cells (#[.int .u8 0, .int .u8 0, .int .u8 0, .int .u8 0, .int .u8 0, .int .u8 0, .int .u8 0, .int .u8 0, .int .u8 0, .int .u8 0, .int .u8 0, .int .u8 0, .int .u8 0, .int .u8 0, .int .u8 0, .int .u8 0, .int .u8 0, .int .u8 0, .int .u8 0, .int .u8 0, .int .u8 0, .int .u8 0, .int .u8 0, .int .u8 0, .int .u8 0, .int .u8 0, .int .u8 0, .int .u8 0, .int .u8 0, .int .u8 0, .int .u8 0, .int .u8 0, .int .u8 0, .int .u8 0, .int .u8 0, .int .u8 0, .int .u8 0, .int .u8 0, .int .u8 0, .int .u8 0, .int .u8 0, .int .u8 0, .int .u8 0, .int .u8 0, .int .u8 0, .int .u8 0, .int .u8 0, .int .u8 0, .int .u8 0, .int .u8 0, .int .u8 0, .int .u8 0, .int .u8 0, .int .u8 0, .int .u8 0, .int .u8 0, .int .u8 0, .int .u8 0, .int .u8 0, .int .u8 0, .int .u8 0, .int .u8 0, .int .u8 0, .int .u8 0]) 33)).alloc (.cells (#[.int .u8 0, .int .u8 0, .int .u8 0, .int .u8 0, .int .u8 0, .int .u8 0, .int .u8 0, .int .u8 0, .int .u8 0, .int .u8 0, .int .u8 0, .int .u8 0, .int .u8 0, .int .u8 0, .int .u8 0, .int .u8 0, .int .u8 0, .int .u8 0, .int .u8 0, .int .u8 0, .int .u8 0, .int .u8 0, .int .u8 0, .int .u8 0, .int .u8 0, .int .u8 0, .int .u8 0, .int .u8 0, .int .u8 0, .int .u8 0, .int .u8 0, .int .u8 0, .int .u8 0, .int .u8 0, .int .u8 0, .int .u8 0, .int .u8 0, .int .u8 0, .int .u8 0, .int .u8 0, .int .u8 0, .int .u8 0, .int .u8 0, .int .u8 0, .int .u8 0, .int .u8 0, .int .u8 0, .int .u8 0, .int .u8 0, .int .u8 0, .int .u8 0, .int .u8 0, .int .u8 0, .int .u8 0, .int .u8 0, .int .u8 0, .int .u8 0, .int .u8 0, .int .u8 0, .int .u8 0, .int .u8 0, .int .u8 0, .int .u8 0, .int .u8 0]) 33)).alloc (.cells #[.int .u8 67, .int .u8 68] 5 (2, 3))) := by
    have := Lib.run_convert_bytes_const (P := Tryz.prog) ((X3.alloc (.cells (#[.int .u8 0, .int .u8 0, .int .u8 0, .int .u8 0, .int .u8 0, .int .u8 0, .int .u8 0, .int .u8 0, .int .u8 0, .int .u8 0, .int .u8 0, .int .u8 0, .int .u8 0, .int .u8 0, .int .u8 0, .int .u8 0, .int .u8 0, .int .u8 0, .int .u8 0, .int .u8 0, .int .u8 0, .int .u8 0, .int .u8 0, .int .u8 0, .int .u8 0, .int .u8 0, .int .u8 0, .int .u8 0, .int .u8 0, .int .u8 0, .int .u8 0, .int .u8 0, .int .u8 0, .int .u8 0, .int .u8 0, .int .u8 0, .int .u8 0, .int .u8 0, .int .u8 0, .int .u8 0, .int .u8 0, .int .u8 0, .int .u8 0, .int .u8 0, .int .u8 0, .int .u8 0, .int .u8 0, .int .u8 0, .int .u8 0, .int .u8 0, .int .u8 0, .int .u8 0, .int .u8 0, .int .u8 0, .int .u8 0, .int .u8 0, .int .u8 0, .int .u8 0, .int .u8 0, .int .u8 0, .int .u8 0, .int .u8 0, .int .u8 0, .int .u8 0]) 33)).alloc (.cells (#[.int .u8 0, .int .u8 0, .int .u8 0, .int .u8 0, .int .u8 0, .int .u8 0, .int .u8 0, .int .u8 0, .int .u8 0, .int .u8 0, .int .u8 0, .int .u8 0, .int .u8 0, .int .u8 0, .int .u8 0, .int .u8 0, .int .u8 0, .int .u8 0, .int .u8 0, .int .u8 0, .int .u8 0, .int .u8 0, .int .u8 0, .int .u8 0, .int .u8 0, .int .u8 0, .int .u8 0, .int .u8 0, .int .u8 0, .int .u8 0, .int .u8 0, .int .u8 0, .int .u8 0, .int .u8 0, .int .u8 0, .int .u8 0, .int .u8 0, .int .u8 0, .int .u8 0, .int .u8 0, .int .u8 0, .int .u8 0, .int .u8 0, .int .u8 0, .int .u8 0, .int .u8 0, .int .u8 0, .int .u8 0, .int .u8 0, .int .u8 0, .int .u8 0, .int .u8 0, .int .u8 0, .int .u8 0, .int .u8 0, .int .u8 0, .int .u8 0, .int .u8 0, .int .u8 0, .int .u8 0, .int .u8 0, .int .u8 0, .int .u8 0, .int .u8 0]) 33)) 36 5 #[.int .u8 67, .int .u8 68] 2 2 Tryz.underlying36 Tryz.underlying5
    rw [show ((X3.alloc (.cells (#[.int .u8 0, .int .u8 0, .int .u8 0, .int .u8 0, .int .u8 0, .int .u8 0, .int .u8 0, .int .u8 0, .int .u8 0, .int .u8 0, .int .u8 0, .int .u8 0, .int .u8 0, .int .u8 0, .int .u8 0, .int .u8 0, .int .u8 0, .int .u8 0, .int .u8 0, .int .u8 0, .int .u8 0, .int .u8 0, .int .u8 0, .int .u8 0, .int .u8 0, .int .u8 0, .int .u8 0, .int .u8 0, .int .u8 0, .int .u8 0, .int .u8 0, .int .u8 0, .int .u8 0, .int .u8 0, .int .u8 0, .int .u8 0, .int .u8 0, .int .u8 0, .int .u8 0, .int .u8 0, .int .u8 0, .int .u8 0, .int .u8 0, .int .u8 0, .int .u8 0, .int .u8 0, .int .u8 0, .int .u8 0, .int .u8 0, .int .u8 0, .int .u8 0, .int .u8 0, .int .u8 0, .int .u8 0, .int .u8 0, .int .u8 0, .int .u8 0, .int .u8 0, .int .u8 0, .int .u8 0, .int .u8 0, .int .u8 0, .int .u8 0, .int .u8 0]) 33)).alloc (.cells (#[.int .u8 0, .int .u8 0, .int .u8 0, .int .u8 0, .int .u8 0, .int .u8 0, .int .u8 0, .int .u8 0, .int .u8 0, .int .u8 0, .int .u8 0, .int .u8 0, .int .u8 0, .int .u8 0, .int .u8 0, .int .u8 0, .int .u8 0, .int .u8 0, .int .u8 0, .int .u8 0, .int .u8 0, .int .u8 0, .int .u8 0, .int .u8 0, .int .u8 0, .int .u8 0, .int .u8 0, .int .u8 0, .int .u8 0, .int .u8 0, .int .u8 0, .int .u8 0, .int .u8 0, .int .u8 0, .int .u8 0, .int .u8 0, .int .u8 0, .int .u8 0, .int .u8 0, .int .u8 0, .int .u8 0, .int .u8 0, .int .u8 0, .int .u8 0, .int .u8 0, .int .u8 0, .int .u8 0, .int .u8 0, .int .u8 0, .int .u8 0, .int .u8 0, .int .u8 0, .int .u8 0, .int .u8 0, .int .u8 0, .int .u8 0, .int .u8 0, .int .u8 0, .int .u8 0, .int .u8 0, .int .u8 0, .int .u8 0, .int .u8 0, .int .u8 0]) 33)).heap.size = cb from by simp; omega] at this
    exact this
  go_upto_region 3 with fail
  rw [show ((#[.int .u8 0, .int .u8 0, .int .u8 0, .int .u8 0, .int .u8 0, .int .u8 0, .int .u8 0, .int .u8 0, .int .u8 0, .int .u8 0, .int .u8 0, .int .u8 0, .int .u8 0, .int .u8 0, .int .u8 0, .int .u8 0, .int .u8 0, .int .u8 0, .int .u8 0, .int .u8 0, .int .u8 0, .int .u8 0, .int .u8 0, .int .u8 0, .int .u8 0, .int .u8 0, .int .u8 0, .int .u8 0, .int .u8 0, .int .u8 0, .int .u8 0, .int .u8 0, .int .u8 0, .int .u8 0, .int .u8 0, .int .u8 0, .int .u8 0, .int .u8 0, .int .u8 0, .int .u8 0, .int .u8 0, .int .u8 0, .int .u8 0, .int .u8 0, .int .u8 0, .int .u8 0, .int .u8 0, .int .u8 0, .int .u8 0, .int .u8 0, .int .u8 0, .int .u8 0, .int .u8 0, .int .u8 0, .int .u8 0, .int .u8 0, .int .u8 0, .int .u8 0, .int .u8 0, .int .u8 0, .int .u8 0, .int .u8 0, .int .u8 0, .int .u8 0]) : Array Value) = Z64 from rfl] at *
  have HRB := Lib.hid hrb
  have HO := Lib.hid (show Rg.Blk (((X3.alloc (.cells Z64 33)).alloc (.cells Z64 33)).alloc (.cells #[.int .u8 67, .int .u8 68] 5 (2, 3))) kb 33 (Cv.bytesV (kst d1 d2 0)) from by
    rw [show kst d1 d2 0 = List.replicate 64 0 from rfl, z64_eq]
    exact Rg.Blk.alloc (Rg.Blk.newAt (by simp; omega) _ _) _)
  have HZ := Lib.hid (show Rg.Blk (((X3.alloc (.cells Z64 33)).alloc (.cells Z64 33)).alloc (.cells #[.int .u8 67, .int .u8 68] 5 (2, 3))) rb 33 Z64 from Rg.Blk.alloc (Rg.Blk.alloc (Rg.Blk.newAt hrb.symm _ _) _) _)
  have HCL := Lib.hid (show CL (((X3.alloc (.cells Z64 33)).alloc (.cells Z64 33)).alloc (.cells #[.int .u8 67, .int .u8 68] 5 (2, 3))) cb from by
    unfold CL
    rw [show cb = ((X3.alloc (.cells Z64 33)).alloc (.cells Z64 33)).heap.size from by simp; omega]
    exact heap_alloc_new _ _)
  have HBN := Lib.hid (show Below X3.heap.size X3 (((X3.alloc (.cells Z64 33)).alloc (.cells Z64 33)).alloc (.cells #[.int .u8 67, .int .u8 68] 5 (2, 3))) from (((Below.refl _ _).alloc (Nat.le_refl _) _).alloc (by simp) _).alloc (by simp; omega) _)
  generalize (((X3.alloc (.cells Z64 33)).alloc (.cells Z64 33)).alloc (.cells #[.int .u8 67, .int .u8 68] 5 (2, 3))) = Y at *
  have HS := Lib.hid (HS.out.below HBN.out HS.out.lt)
  have HH := Lib.hid (HH.out.below HBN.out HH.out.lt)
  have HI := Lib.hid (HI.out.below HBN.out HI.out.lt)
  have HT := Lib.hid (tables_later HT.out HBN.out)
  have HB := Lib.hid (HB.out.trans (HBN.out.mono (HB.out.size_le hsb)))
  have HN := Lib.hid (show sb ≠ rb ∧ sb ≤ rb ∧ True ∧ True ∧ sb ≤ kb from by have := HNN.out; refine ⟨?_, ?_, trivial, trivial, ?_⟩ <;> omega)
  have HN2 := Lib.hid (show kb ≠ sb ∧ kb ≠ hb ∧ kb ≠ ib ∧ kb ≠ cb ∧ kb ≠ rb from by have := HNN.out; refine ⟨?_, ?_, ?_, ?_, ?_⟩ <;> omega)
  clear HX HBX HNX HX2 HBX2 HNX2 HX3 HBX3 HNX3 hsb hhb hib hrb hkb hcb HRB HBN HNN hcv
  go_loopw [13] (fun ii wr => ∃ k : Nat, k ≤ 2 ∧ ii = .int .i64 k ∧ Rg.Blk wr kb 33 (Cv.bytesV (kst d1 d2 k)) ∧ Rg.Blk wr sb 22 (Cv.bytesV s) ∧ Rg.Blk wr hb 22 (Cv.bytesV h) ∧ Rg.Blk wr ib 22 (Cv.bytesV i) ∧ CL wr cb ∧ Rg.Blk wr rb 33 Z64 ∧ Sha.Tables wr ∧ Below sb w wr) (fun ii _ => 2 - (intOf ii).toNat)
  case atStart => exact ⟨0, Nat.zero_le _, rfl, HO.out, HS.out, HH.out, HI.out, HCL.out, HZ.out, HT.out, HB.out⟩
  case round =>
    obtain ⟨k, hk, rfl, ho, h1, h2, h3, h4, h5, h6, h7⟩ := hrel
    clear HO HS HH HI HCL HZ HT HB
    have HS := Lib.hid h1
    have HH := Lib.hid h2
    have HI := Lib.hid h3
    have HCL := Lib.hid h4
    have HZ := Lib.hid h5
    have HT := Lib.hid h6
    have HB := Lib.hid h7
    clear h1 h2 h3 h4 h5 h6 h7
    have hk3 : k = 0 ∨ k = 1 ∨ k = 2 := by omega
    clear hk
    rcases hk3 with rfl | rfl | rfl
    · have HO := Lib.hid (show Rg.Blk wr kb 33 (Cv.bytesV (List.replicate 64 0)) from ho)
      clear ho
      have cl := HCL.out.c0
      go_upto_region 5 with fail
      clear cl
      go_wp2_with (first
        | ((with_reducible refine gate_ ?_); refine Cv.load_cells rfl 22 _ rfl sb 0 rfl (Cv.bytesV (s)) _ (fun j v hv => by rw [Nat.zero_add]; exact HS.out.cell j hv) Tryz.underlying22 rfl (by rw [Cv.bytesV_size, HLsb.out]; kernel_rfl) ?_; skip)
        | ((with_reducible refine gate_ ?_); refine Cv.load_cells rfl 22 _ rfl hb 0 rfl (Cv.bytesV (h)) _ (fun j v hv => by rw [Nat.zero_add]; exact HH.out.cell j hv) Tryz.underlying22 rfl (by rw [Cv.bytesV_size, HLhb.out]; kernel_rfl) ?_; skip)
        | ((with_reducible refine gate_ ?_); refine Cv.load_cells rfl 22 _ rfl ib 0 rfl (Cv.bytesV (i)) _ (fun j v hv => by rw [Nat.zero_add]; exact HI.out.cell j hv) Tryz.underlying22 rfl (by rw [Cv.bytesV_size, HLib.out]; kernel_rfl) ?_; skip)
        | (go_at_call 11; refine (HD1.out.2 _ HT.out).mono ?_; rintro e w1 ⟨rfl, hb1⟩; skip; have HB1 := Lib.hid hb1; clear hb1)
        | ((with_reducible refine gate_ ?_); refine Cv.conv_bytes rfl 9 36 5 _ rfl rfl Tryz.underlying9 Tryz.underlying36 Tryz.underlying5 ?_; intro V cap hV hfV hbV hnV hcV; have HV := Lib.hid hV; have HBV := Lib.hid (HB1.out.trans (hbV.mono HB1.out.size)); clear hV hfV hbV hnV hcV)
        | ((with_reducible refine gate_ ?_); refine Cv.slice_to_array rfl 22 5 32 _ rfl _ _ _ _ rfl Tryz.underlying22 (by rw [HD1.out.1.1]; decide) ?_; skip)
        | ((with_reducible refine gate_ ?_); refine Cv.load_cells rfl 22 _ rfl _ 0 rfl (Cv.bytesV d1) _ (HD1.out.1.2 ▸ HV.out).cells Tryz.underlying22 rfl (by rw [Cv.bytesV_size, HD1L.out]; kernel_rfl) ?_; skip)
        | ((with_reducible refine gate_ ?_); refine store_part rfl 22 _ _ rfl kb 0 33 (List.replicate 64 0) d1 rfl rfl (HO.out.below HBV.out HO.out.lt) (by rw [HD1L.out, List.length_replicate]; decide) (by rw [HD1L.out]; kernel_rfl) ?_; intro V2 hV hgV; have HOV := Lib.hid hV; have HGV := Lib.hid hgV; clear hV hgV))
      have HBX := Lib.hid (HB.out.trans (HBV.out.mono (HB.out.size_le HKB.out)))
      have HBY := Lib.hid (HBX.out.grown HGV.out (HBX.out.size_le HKB.out) (fun j e => by cases e; exact HN.out.2.2.2.2))
      go_roundw
      case rel =>
        have REL := Lib.hid (show ∃ k' : Nat, k' ≤ 2 ∧ Value.int .i64 1 = .int .i64 k' ∧ Rg.Blk V2 kb 33 (Cv.bytesV (kst d1 d2 k')) ∧ Rg.Blk V2 sb 22 (Cv.bytesV s) ∧ Rg.Blk V2 hb 22 (Cv.bytesV h) ∧ Rg.Blk V2 ib 22 (Cv.bytesV i) ∧ CL V2 cb ∧ Rg.Blk V2 rb 33 Z64 ∧ Sha.Tables V2 ∧ Below sb w V2 from
          ⟨1, by decide, rfl, HOV.out, blk_other (HS.out.below HBV.out HS.out.lt) HGV.out HN2.out.1, blk_other (HH.out.below HBV.out HH.out.lt) HGV.out HN2.out.2.1, blk_other (HI.out.below HBV.out HI.out.lt) HGV.out HN2.out.2.2.1, (HCL.out.below HBV.out HCL.out.lt).other HGV.out HN2.out.2.2.2.1, blk_other (HZ.out.below HBV.out HZ.out.lt) HGV.out HN2.out.2.2.2.2, tables_grown (tables_later HT.out HBV.out) HGV.out (by have := HN.out; have := HTZ.out; omega), HBY.out⟩)
        first
          | exact REL.out
          | ((repeat apply Exists.intro); refine ⟨?_, rfl⟩; exact REL.out)
      case measure => (first | (simp [intOf]; done) | (simp [intOf]; omega))
    · have HO := Lib.hid (show Rg.Blk wr kb 33 (Cv.bytesV (putL (List.replicate 64 0) 0 d1)) from ho)
      clear ho
      have cl := HCL.out.c1
      go_upto_region 5 with fail
      clear cl
      go_wp2_with (first
        | ((with_reducible refine gate_ ?_); refine Cv.load_cells rfl 22 _ rfl sb 0 rfl (Cv.bytesV (s)) _ (fun j v hv => by rw [Nat.zero_add]; exact HS.out.cell j hv) Tryz.underlying22 rfl (by rw [Cv.bytesV_size, HLsb.out]; kernel_rfl) ?_; skip)
        | ((with_reducible refine gate_ ?_); refine Cv.load_cells rfl 22 _ rfl hb 0 rfl (Cv.bytesV (h)) _ (fun j v hv => by rw [Nat.zero_add]; exact HH.out.cell j hv) Tryz.underlying22 rfl (by rw [Cv.bytesV_size, HLhb.out]; kernel_rfl) ?_; skip)
        | ((with_reducible refine gate_ ?_); refine Cv.load_cells rfl 22 _ rfl ib 0 rfl (Cv.bytesV (i)) _ (fun j v hv => by rw [Nat.zero_add]; exact HI.out.cell j hv) Tryz.underlying22 rfl (by rw [Cv.bytesV_size, HLib.out]; kernel_rfl) ?_; skip)
        | (go_at_call 11; refine (HD2.out.2 _ HT.out).mono ?_; rintro e w1 ⟨rfl, hb1⟩; skip; have HB1 := Lib.hid hb1; clear hb1)
        | ((with_reducible refine gate_ ?_); refine Cv.conv_bytes rfl 9 36 5 _ rfl rfl Tryz.underlying9 Tryz.underlying36 Tryz.underlying5 ?_; intro V cap hV hfV hbV hnV hcV; have HV := Lib.hid hV; have HBV := Lib.hid (HB1.out.trans (hbV.mono HB1.out.size)); clear hV hfV hbV hnV hcV)
        | ((with_reducible refine gate_ ?_); refine Cv.slice_to_array rfl 22 5 32 _ rfl _ _ _ _ rfl Tryz.underlying22 (by rw [HD2.out.1.1]; decide) ?_; skip)
        | ((with_reducible refine gate_ ?_); refine Cv.load_cells rfl 22 _ rfl _ 0 rfl (Cv.bytesV d2) _ (HD2.out.1.2 ▸ HV.out).cells Tryz.underlying22 rfl (by rw [Cv.bytesV_size, HD2L.out]; kernel_rfl) ?_; skip)
        | ((with_reducible refine gate_ ?_); refine store_part rfl 22 _ _ rfl kb 32 33 (putL (List.replicate 64 0) 0 d1) d2 rfl rfl (HO.out.below HBV.out HO.out.lt) (by rw [HD2L.out, putL_len, List.length_replicate]; decide) (by rw [HD2L.out]; kernel_rfl) ?_; intro V2 hV hgV; have HOV := Lib.hid hV; have HGV := Lib.hid hgV; clear hV hgV))
      have HBX := Lib.hid (HB.out.trans (HBV.out.mono (HB.out.size_le HKB.out)))
      have HBY := Lib.hid (HBX.out.grown HGV.out (HBX.out.size_le HKB.out) (fun j e => by cases e; exact HN.out.2.2.2.2))
      go_roundw
      case rel =>
        have REL := Lib.hid (show ∃ k' : Nat, k' ≤ 2 ∧ Value.int .i64 2 = .int .i64 k' ∧ Rg.Blk V2 kb 33 (Cv.bytesV (kst d1 d2 k')) ∧ Rg.Blk V2 sb 22 (Cv.bytesV s) ∧ Rg.Blk V2 hb 22 (Cv.bytesV h) ∧ Rg.Blk V2 ib 22 (Cv.bytesV i) ∧ CL V2 cb ∧ Rg.Blk V2 rb 33 Z64 ∧ Sha.Tables V2 ∧ Below sb w V2 from
          ⟨2, by decide, rfl, HOV.out, blk_other (HS.out.below HBV.out HS.out.lt) HGV.out HN2.out.1, blk_other (HH.out.below HBV.out HH.out.lt) HGV.out HN2.out.2.1, blk_other (HI.out.below HBV.out HI.out.lt) HGV.out HN2.out.2.2.1, (HCL.out.below HBV.out HCL.out.lt).other HGV.out HN2.out.2.2.2.1, blk_other (HZ.out.below HBV.out HZ.out.lt) HGV.out HN2.out.2.2.2.2, tables_grown (tables_later HT.out HBV.out) HGV.out (by have := HN.out; have := HTZ.out; omega), HBY.out⟩)
        first
          | exact REL.out
          | ((repeat apply Exists.intro); refine ⟨?_, rfl⟩; exact REL.out)
      case measure => (first | (simp [intOf]; done) | (simp [intOf]; omega))
    · have HO := Lib.hid (show Rg.Blk wr kb 33 (Cv.bytesV (keysL s h i)) from by rw [HRES.out, ← kst_end d1 d2 HD1L.out HD2L.out]; exact ho)
      clear ho
      have HKZ := Lib.hid (show (Cv.bytesV (keysL s h i)).size = 64 from by rw [Cv.bytesV_size, keysL_len])
      obtain ⟨kl, hkl⟩ : ∃ l, keysL s h i = l := ⟨_, rfl⟩
      have HKL := Lib.hid hkl
      rw [hkl] at HO HKZ
      clear hkl
      go_wp2_with (first
        | ((with_reducible refine gate_ ?_); refine Cv.load_cells rfl 33 _ rfl kb 0 rfl (Cv.bytesV kl) _ (fun j v hv => by rw [Nat.zero_add]; exact HO.out.cell j hv) Tryz.underlying33 rfl (by rw [HKZ.out]; kernel_rfl) ?_; skip)
        | ((with_reducible refine gate_ ?_); refine Cv.store_blk rfl 33 _ _ rfl rb (Cv.bytesV kl) Z64 33 rfl rfl HZ.out (by rw [HKZ.out]; kernel_rfl) (by rw [HKZ.out]; rfl) (Cv.bytesV_one _) ?_; intro V3 hV hgV; have HZZ := Lib.hid hV; have HBZ := Lib.hid (HB.out.grown hgV (HB.out.size_le HKB.out) (fun j e => by cases e; exact HN.out.2.1)); clear hV hgV))
      refine bodyPost_ret (v := .agg (Cv.bytesV kl))
        (results_cell_row Tryz.results12 _ _ rb 33 _ (0, 0) _ rfl HZZ.out Tryz.underlying33 rfl (by rw [HKZ.out]; kernel_rfl)) rfl ?_
      exact ⟨by rw [HKL.out], HKB.out ▸ HBZ.out⟩
end Go.Proofs.YtfaeigbfnjkojaaGreatDoor.Kx
