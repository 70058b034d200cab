/- The reference's Hash. -/
import Derived.Test.YtfaeigbfnjkojaaGreatDoorKxHc
import Derived.Test.YtfaeigbfnjkojaaGreatDoorKxRd
set_option linter.unusedVariables false
set_option linter.unusedSimpArgs false
namespace Go.Proofs.YtfaeigbfnjkojaaGreatDoor.Kx
open Go.RowKit Go.Proofs.YtfaeigbfnjkojaaGreatDoor.Cl
def fq (l : List UInt8) (s t : ByteArray) : Nat → List UInt8
  | 0 => l
  | 1 => l ++ Wi.textL s.data.toList
  | _ => l ++ Wi.textL s.data.toList ++ Wi.textL t.data.toList
def hk (x : Xc) (p q : List UInt8) : Nat → List UInt8
  | 0 => []
  | 1 => fq [] x.a x.b 2
  | 2 => fq (fq [] x.a x.b 2) x.c x.d 2
  | 3 => fq (fq (fq [] x.a x.b 2) x.c x.d 2) x.h x.h 1
  | _ => fq (fq (fq (fq [] x.a x.b 2) x.c x.d 2) x.h x.h 1) ⟨p.toArray⟩ ⟨q.toArray⟩ 2
theorem hk_len (x : Xc) (p q : List UInt8) (hx : x.a.size ≤ 1000 ∧ x.b.size ≤ 1000 ∧ x.c.size ≤ 1000 ∧ x.d.size ≤ 1000 ∧ x.h.size ≤ 1000) (hp : p.length = 32) (hq : q.length = 32) (k : Nat) (hk4 : k ≤ 4) : (hk x p q k).length ≤ 20000 := by
  have h : k = 0 ∨ k = 1 ∨ k = 2 ∨ k = 3 ∨ k = 4 := by omega
  rcases h with rfl | rfl | rfl | rfl | rfl <;> simp only [hk, fq, List.length_append, List.length_nil, tl_len, Wi.len_list, str_size] <;> omega
/-- two texts in memory -/
structure Two (w : World) (b o : Nat) (s t : ByteArray) : Prop where
  lt : b < w.heap.size
  c0 : w.cell? ⟨b, o + 0, none⟩ = some (.string s)
  c1 : w.cell? ⟨b, o + 1, none⟩ = some (.string t)
theorem Two.below {w w' : World} {b o : Nat} {s t : ByteArray} (h : Two w b o s t) (hb : Below w.heap.size w w') : Two w' b o s t :=
  ⟨Nat.lt_of_lt_of_le h.lt hb.size, (hb.cell (p := ⟨b, o + 0, none⟩) h.lt).trans h.c0, (hb.cell (p := ⟨b, o + 1, none⟩) h.lt).trans h.c1⟩
structure One (w : World) (b : Nat) (s : ByteArray) : Prop where
  lt : b < w.heap.size
  c0 : w.cell? ⟨b, 0 + 0, none⟩ = some (.string s)
theorem hk_end (x : Xc) (p q s : List UInt8) : hk x p q 4 ++ Wi.textL (Wi.bigL s) = hsL x p q s := by
  unfold hsL
  simp [hk, fq, ls]
set_option maxRecDepth 20000 in
set_option maxHeartbeats 16000000 in
theorem RefHash_any (w : World) (x : Xc) (p q s : List UInt8) (hp : p.length = 32) (hq : q.length = 32) (hs : s.length = 32) (hx : x.a.size ≤ 1000 ∧ x.b.size ≤ 1000 ∧ x.c.size ≤ 1000 ∧ x.d.size ≤ 1000 ∧ x.h.size ≤ 1000)
    (b1 o1 c1 b2 o2 c2 b3 o3 c3 : Nat) (h1 : Two w b1 o1 x.a x.b) (h2 : Two w b2 o2 x.c x.d) (h3 : Two w b3 o3 ⟨p.toArray⟩ ⟨q.toArray⟩) (hc1 : 2 ≤ c1) (hc2 : 2 ≤ c2) (hc3 : 2 ≤ c3) :
    Calls Tryz.prog 16 #[.slice (some ⟨b1, o1, none⟩) 2 c1, .slice (some ⟨b2, o2, none⟩) 2 c2, .string x.h, .slice (some ⟨b3, o3, none⟩) 2 c3, .string ⟨s.toArray⟩] w fun e w' => e = .returned (.string ⟨(Sha.sha 32 (hsL x p q s)).toArray⟩) ∧ Below w.heap.size w w' := by
  have HSZ := Lib.hid hx
  have HPL := Lib.hid hp
  have HQL := Lib.hid hq
  have H1 := Lib.hid h1
  have H2 := Lib.hid h2
  have H3 := Lib.hid h3
  obtain ⟨bt, hbt⟩ : ∃ l, Wi.textL (Wi.bigL s) = l := ⟨_, rfl⟩
  have HBT := Lib.hid (show bt.length ≤ 37 from by rw [← hbt, tl_len]; have := Wi.bigL_length s; omega)
  have HBC := Lib.hid (fun W => show Calls Tryz.prog 34 #[.string ⟨s.toArray⟩] W fun e w' => e = .returned (.string ⟨bt.toArray⟩) ∧ Below W.heap.size W w' from by
    have := Wi.RefBig_any W ⟨s.toArray⟩ (by rw [str_size, hs]; decide)
    rw [show (⟨s.toArray⟩ : ByteArray).data.toList = s from rfl, hbt] at this
    exact this)
  have HEND := Lib.hid (show hk x p q 4 ++ bt = hsL x p q s from hbt ▸ hk_end x p q s)
  clear hx hp hq hs h1 h2 h3 hbt
  go_enter Tryz.func16, Tryz.ntmps16
  obtain ⟨hb, hhb⟩ : ∃ n, w.heap.size = n := ⟨_, rfl⟩
  obtain ⟨gb, hgb⟩ : ∃ n, hb + 1 = n := ⟨_, rfl⟩
  go_upto_region 3 with fail
  try rw [hhb]
  try rw [hgb]
  obtain ⟨w2, hw2⟩ : ∃ V, (w.alloc (.cells #[.string x.h] 9)).alloc (.cells #[.slice (some ⟨b1, o1, none⟩) 2 c1, .slice (some ⟨b2, o2, none⟩) 2 c2, .slice (some ⟨hb, 0, none⟩) 1 1, .slice (some ⟨b3, o3, none⟩) 2 c3] 44) = V := ⟨_, rfl⟩
  have HBW := Lib.hid (show Below w.heap.size w w2 from hw2 ▸ ((Below.refl _ _).alloc (Nat.le_refl _) _).alloc (by simp) _)
  have HG := Lib.hid (show Rg.Blk w2 gb 44 #[.slice (some ⟨b1, o1, none⟩) 2 c1, .slice (some ⟨b2, o2, none⟩) 2 c2, .slice (some ⟨hb, 0, none⟩) 1 1, .slice (some ⟨b3, o3, none⟩) 2 c3] from hw2 ▸ Rg.Blk.newAt (by simp; omega) _ _)
  have HHB := Lib.hid (show Rg.Blk w2 hb 9 #[.string x.h] from hw2 ▸ (Rg.Blk.newAt hhb.symm _ _).alloc _)
  have HGL := Lib.hid (show gb < w2.heap.size from HG.out.lt)
  have HA := Lib.hid (H1.out.below HBW.out)
  have HBB := Lib.hid (H2.out.below HBW.out)
  have HC := Lib.hid (H3.out.below HBW.out)
  have HH := Lib.hid (show One w2 hb x.h from ⟨HHB.out.lt, HHB.out.cell 0 rfl⟩)
  rw [hw2]
  clear hw2 hhb hgb H1 H2 H3 HHB
  go_loopw [11, 23] (fun oo ii wr => ∃ k : Nat, k ≤ 4 ∧ ii = .int .i64 k ∧ oo = .string ⟨(hk x p q k).toArray⟩ ∧ Below w2.heap.size w2 wr) (fun _ ii _ => 4 - (intOf ii).toNat)
  case atStart => exact ⟨0, Nat.zero_le _, rfl, rfl, Below.refl _ _⟩
  case round =>
    obtain ⟨k, hk4, rfl, rfl, h1⟩ := hrel
    have HB := Lib.hid h1
    clear h1
    have hk3 : k = 0 ∨ k = 1 ∨ k = 2 ∨ k = 3 ∨ k = 4 := by omega
    clear hk4
    rcases hk3 with rfl | rfl | rfl | rfl | rfl
    · have cs := HG.out.cell 0 (v := .slice (some ⟨b1, o1, none⟩) 2 c1) rfl
      have hcs := (HB.out.cell (p := ⟨gb, 0, none⟩) HGL.out).trans cs
      obtain ⟨l0, hl0⟩ : ∃ l, hk x p q 0 = l := ⟨_, rfl⟩
      have HLK := Lib.hid (show l0.length ≤ 20000 from by rw [← hl0]; exact hk_len x p q HSZ.out HPL.out HQL.out 0 (by decide))
      have HNX := Lib.hid (show hk x p q 1 = fq l0 x.a x.b 2 from by rw [← hl0]; rfl)
      rw [hl0]
      clear hl0
      go_upto_region 6 with fail
      clear cs hcs
      go_loopw [11, 29] (fun oo ii ws => ∃ j : Nat, j ≤ 2 ∧ ii = .int .i64 j ∧ oo = .string ⟨(fq l0 x.a x.b j).toArray⟩ ∧ Below w2.heap.size w2 ws) (fun _ ii _ => 2 - (intOf ii).toNat)
      case atStart => exact ⟨0, Nat.zero_le _, rfl, rfl, HB.out⟩
      case round =>
        obtain ⟨j, hj, rfl, rfl, h1⟩ := hrel
        clear HB
        have HB := Lib.hid h1
        clear h1
        have hj3 : j = 0 ∨ j = 1 ∨ j = 2 := by omega
        clear hj
        rcases hj3 with rfl | rfl | rfl
        · have ct := HA.out.c0
          have hct := (HB.out.cell (p := ⟨b1, o1 + 0, none⟩) HA.out.lt).trans ct
          rw [Nat.add_zero] at hct
          obtain ⟨l1, hl1⟩ : ∃ l, fq l0 x.a x.b 0 = l := ⟨_, rfl⟩
          obtain ⟨lt, hlt⟩ : ∃ l, Wi.textL (x.a : ByteArray).data.toList = l := ⟨_, rfl⟩
          obtain ⟨l2, hl2⟩ : ∃ l, fq l0 x.a x.b 1 = l := ⟨_, rfl⟩
          have HTX := Lib.hid (fun W => show Calls Tryz.prog 37 #[.string x.a] W fun e w' => e = .returned (.string ⟨lt.toArray⟩) ∧ Below W.heap.size W w' from hlt ▸ Wi.RefText_any W x.a (by have := HSZ.out; omega))
          have AD := Lib.hid (show (⟨l1.toArray⟩ : ByteArray) ++ ⟨lt.toArray⟩ = ⟨l2.toArray⟩ ∧ ¬ 9223372036854775807 < l1.length + lt.length from ⟨by rw [app_str, ← hl1, ← hl2, ← hlt]; rfl, by rw [← hl1, ← hlt]; have := HSZ.out; have := HLK.out; have := HPL.out; have := HQL.out; simp only [fq, List.length_append, tl_len, Wi.len_list, str_size]; omega⟩)
          have HL2 := Lib.hid hl2
          rw [hl1]
          clear hl1 hlt hl2 ct
          have ad1 := AD.out.1
          have ad2 := AD.out.2
          go_wp2_with (go_at_call 37; refine (HTX.out _).mono ?_; rintro e w5 ⟨rfl, hb1⟩; skip; have HB5 := Lib.hid (HB.out.trans (hb1.mono HB.out.size)); clear hb1)
          go_roundw
          case rel =>
            have REL := Lib.hid (show ∃ j' : Nat, j' ≤ 2 ∧ Value.int .i64 1 = .int .i64 j' ∧ Value.string ⟨l2.toArray⟩ = .string ⟨(fq l0 x.a x.b j').toArray⟩ ∧ Below w2.heap.size w2 w5 from ⟨1, by decide, rfl, by rw [HL2.out], HB5.out⟩)
            first
              | exact REL.out
              | ((repeat apply Exists.intro); refine ⟨?_, rfl⟩; exact REL.out)
          case measure => (first | (simp [intOf]; done) | (simp [intOf]; omega))
        · have ct := HA.out.c1
          have hct := (HB.out.cell (p := ⟨b1, o1 + 1, none⟩) HA.out.lt).trans ct
          obtain ⟨l1, hl1⟩ : ∃ l, fq l0 x.a x.b 1 = l := ⟨_, rfl⟩
          obtain ⟨lt, hlt⟩ : ∃ l, Wi.textL (x.b : ByteArray).data.toList = l := ⟨_, rfl⟩
          obtain ⟨l2, hl2⟩ : ∃ l, fq l0 x.a x.b 2 = l := ⟨_, rfl⟩
          have HTX := Lib.hid (fun W => show Calls Tryz.prog 37 #[.string x.b] W fun e w' => e = .returned (.string ⟨lt.toArray⟩) ∧ Below W.heap.size W w' from hlt ▸ Wi.RefText_any W x.b (by have := HSZ.out; omega))
          have AD := Lib.hid (show (⟨l1.toArray⟩ : ByteArray) ++ ⟨lt.toArray⟩ = ⟨l2.toArray⟩ ∧ ¬ 9223372036854775807 < l1.length + lt.length from ⟨by rw [app_str, ← hl1, ← hl2, ← hlt]; rfl, by rw [← hl1, ← hlt]; have := HSZ.out; have := HLK.out; have := HPL.out; have := HQL.out; simp only [fq, List.length_append, tl_len, Wi.len_list, str_size]; omega⟩)
          have HL2 := Lib.hid hl2
          rw [hl1]
          clear hl1 hlt hl2 ct
          have ad1 := AD.out.1
          have ad2 := AD.out.2
          go_wp2_with (go_at_call 37; refine (HTX.out _).mono ?_; rintro e w5 ⟨rfl, hb1⟩; skip; have HB5 := Lib.hid (HB.out.trans (hb1.mono HB.out.size)); clear hb1)
          go_roundw
          case rel =>
            have REL := Lib.hid (show ∃ j' : Nat, j' ≤ 2 ∧ Value.int .i64 2 = .int .i64 j' ∧ Value.string ⟨l2.toArray⟩ = .string ⟨(fq l0 x.a x.b j').toArray⟩ ∧ Below w2.heap.size w2 w5 from ⟨2, by decide, rfl, by rw [HL2.out], HB5.out⟩)
            first
              | exact REL.out
              | ((repeat apply Exists.intro); refine ⟨?_, rfl⟩; exact REL.out)
          case measure => (first | (simp [intOf]; done) | (simp [intOf]; omega))
        · rw [← HNX.out]
          go_wp2_with fail
          go_roundw
          case rel =>
            have REL := Lib.hid (show ∃ k' : Nat, k' ≤ 4 ∧ Value.int .i64 1 = .int .i64 k' ∧ Value.string ⟨(hk x p q 1).toArray⟩ = .string ⟨(hk x p q k').toArray⟩ ∧ Below w2.heap.size w2 wr from ⟨1, by decide, rfl, rfl, HB.out⟩)
            first
              | exact REL.out
              | ((repeat apply Exists.intro); refine ⟨?_, rfl⟩; exact REL.out)
          case measure => (first | (simp [intOf]; done) | (simp [intOf]; omega))
    · have cs := HG.out.cell 1 (v := .slice (some ⟨b2, o2, none⟩) 2 c2) rfl
      have hcs := (HB.out.cell (p := ⟨gb, 1, none⟩) HGL.out).trans cs
      obtain ⟨l0, hl0⟩ : ∃ l, hk x p q 1 = l := ⟨_, rfl⟩
      have HLK := Lib.hid (show l0.length ≤ 20000 from by rw [← hl0]; exact hk_len x p q HSZ.out HPL.out HQL.out 1 (by decide))
      have HNX := Lib.hid (show hk x p q 2 = fq l0 x.c x.d 2 from by rw [← hl0]; rfl)
      rw [hl0]
      clear hl0
      go_upto_region 6 with fail
      clear cs hcs
      go_loopw [11, 29] (fun oo ii ws => ∃ j : Nat, j ≤ 2 ∧ ii = .int .i64 j ∧ oo = .string ⟨(fq l0 x.c x.d j).toArray⟩ ∧ Below w2.heap.size w2 ws) (fun _ ii _ => 2 - (intOf ii).toNat)
      case atStart => exact ⟨0, Nat.zero_le _, rfl, rfl, HB.out⟩
      case round =>
        obtain ⟨j, hj, rfl, rfl, h1⟩ := hrel
        clear HB
        have HB := Lib.hid h1
        clear h1
        have hj3 : j = 0 ∨ j = 1 ∨ j = 2 := by omega
        clear hj
        rcases hj3 with rfl | rfl | rfl
        · have ct := HBB.out.c0
          have hct := (HB.out.cell (p := ⟨b2, o2 + 0, none⟩) HBB.out.lt).trans ct
          rw [Nat.add_zero] at hct
          obtain ⟨l1, hl1⟩ : ∃ l, fq l0 x.c x.d 0 = l := ⟨_, rfl⟩
          obtain ⟨lt, hlt⟩ : ∃ l, Wi.textL (x.c : ByteArray).data.toList = l := ⟨_, rfl⟩
          obtain ⟨l2, hl2⟩ : ∃ l, fq l0 x.c x.d 1 = l := ⟨_, rfl⟩
          have HTX := Lib.hid (fun W => show Calls Tryz.prog 37 #[.string x.c] W fun e w' => e = .returned (.string ⟨lt.toArray⟩) ∧ Below W.heap.size W w' from hlt ▸ Wi.RefText_any W x.c (by have := HSZ.out; omega))
          have AD := Lib.hid (show (⟨l1.toArray⟩ : ByteArray) ++ ⟨lt.toArray⟩ = ⟨l2.toArray⟩ ∧ ¬ 9223372036854775807 < l1.length + lt.length from ⟨by rw [app_str, ← hl1, ← hl2, ← hlt]; rfl, by rw [← hl1, ← hlt]; have := HSZ.out; have := HLK.out; have := HPL.out; have := HQL.out; simp only [fq, List.length_append, tl_len, Wi.len_list, str_size]; omega⟩)
          have HL2 := Lib.hid hl2
          rw [hl1]
          clear hl1 hlt hl2 ct
          have ad1 := AD.out.1
          have ad2 := AD.out.2
          go_wp2_with (go_at_call 37; refine (HTX.out _).mono ?_; rintro e w5 ⟨rfl, hb1⟩; skip; have HB5 := Lib.hid (HB.out.trans (hb1.mono HB.out.size)); clear hb1)
          go_roundw
          case rel =>
            have REL := Lib.hid (show ∃ j' : Nat, j' ≤ 2 ∧ Value.int .i64 1 = .int .i64 j' ∧ Value.string ⟨l2.toArray⟩ = .string ⟨(fq l0 x.c x.d j').toArray⟩ ∧ Below w2.heap.size w2 w5 from ⟨1, by decide, rfl, by rw [HL2.out], HB5.out⟩)
            first
              | exact REL.out
              | ((repeat apply Exists.intro); refine ⟨?_, rfl⟩; exact REL.out)
          case measure => (first | (simp [intOf]; done) | (simp [intOf]; omega))
        · have ct := HBB.out.c1
          have hct := (HB.out.cell (p := ⟨b2, o2 + 1, none⟩) HBB.out.lt).trans ct
          obtain ⟨l1, hl1⟩ : ∃ l, fq l0 x.c x.d 1 = l := ⟨_, rfl⟩
          obtain ⟨lt, hlt⟩ : ∃ l, Wi.textL (x.d : ByteArray).data.toList = l := ⟨_, rfl⟩
          obtain ⟨l2, hl2⟩ : ∃ l, fq l0 x.c x.d 2 = l := ⟨_, rfl⟩
          have HTX := Lib.hid (fun W => show Calls Tryz.prog 37 #[.string x.d] W fun e w' => e = .returned (.string ⟨lt.toArray⟩) ∧ Below W.heap.size W w' from hlt ▸ Wi.RefText_any W x.d (by have := HSZ.out; omega))
          have AD := Lib.hid (show (⟨l1.toArray⟩ : ByteArray) ++ ⟨lt.toArray⟩ = ⟨l2.toArray⟩ ∧ ¬ 9223372036854775807 < l1.length + lt.length from ⟨by rw [app_str, ← hl1, ← hl2, ← hlt]; rfl, by rw [← hl1, ← hlt]; have := HSZ.out; have := HLK.out; have := HPL.out; have := HQL.out; simp only [fq, List.length_append, tl_len, Wi.len_list, str_size]; omega⟩)
          have HL2 := Lib.hid hl2
          rw [hl1]
          clear hl1 hlt hl2 ct
          have ad1 := AD.out.1
          have ad2 := AD.out.2
          go_wp2_with (go_at_call 37; refine (HTX.out _).mono ?_; rintro e w5 ⟨rfl, hb1⟩; skip; have HB5 := Lib.hid (HB.out.trans (hb1.mono HB.out.size)); clear hb1)
          go_roundw
          case rel =>
            have REL := Lib.hid (show ∃ j' : Nat, j' ≤ 2 ∧ Value.int .i64 2 = .int .i64 j' ∧ Value.string ⟨l2.toArray⟩ = .string ⟨(fq l0 x.c x.d j').toArray⟩ ∧ Below w2.heap.size w2 w5 from ⟨2, by decide, rfl, by rw [HL2.out], HB5.out⟩)
            first
              | exact REL.out
              | ((repeat apply Exists.intro); refine ⟨?_, rfl⟩; exact REL.out)
          case measure => (first | (simp [intOf]; done) | (simp [intOf]; omega))
        · rw [← HNX.out]
          go_wp2_with fail
          go_roundw
          case rel =>
            have REL := Lib.hid (show ∃ k' : Nat, k' ≤ 4 ∧ Value.int .i64 2 = .int .i64 k' ∧ Value.string ⟨(hk x p q 2).toArray⟩ = .string ⟨(hk x p q k').toArray⟩ ∧ Below w2.heap.size w2 wr from ⟨2, by decide, rfl, rfl, HB.out⟩)
            first
              | exact REL.out
              | ((repeat apply Exists.intro); refine ⟨?_, rfl⟩; exact REL.out)
          case measure => (first | (simp [intOf]; done) | (simp [intOf]; omega))
    · have cs := HG.out.cell 2 (v := .slice (some ⟨hb, 0, none⟩) 1 1) rfl
      have hcs := (HB.out.cell (p := ⟨gb, 2, none⟩) HGL.out).trans cs
      obtain ⟨l0, hl0⟩ : ∃ l, hk x p q 2 = l := ⟨_, rfl⟩
      have HLK := Lib.hid (show l0.length ≤ 20000 from by rw [← hl0]; exact hk_len x p q HSZ.out HPL.out HQL.out 2 (by decide))
      have HNX := Lib.hid (show hk x p q 3 = fq l0 x.h x.h 1 from by rw [← hl0]; rfl)
      rw [hl0]
      clear hl0
      go_upto_region 6 with fail
      clear cs hcs
      go_loopw [11, 29] (fun oo ii ws => ∃ j : Nat, j ≤ 1 ∧ ii = .int .i64 j ∧ oo = .string ⟨(fq l0 x.h x.h j).toArray⟩ ∧ Below w2.heap.size w2 ws) (fun _ ii _ => 1 - (intOf ii).toNat)
      case atStart => exact ⟨0, Nat.zero_le _, rfl, rfl, HB.out⟩
      case round =>
        obtain ⟨j, hj, rfl, rfl, h1⟩ := hrel
        clear HB
        have HB := Lib.hid h1
        clear h1
        have hj3 : j = 0 ∨ j = 1 := by omega
        clear hj
        rcases hj3 with rfl | rfl
        · have ct := HH.out.c0
          have hct := (HB.out.cell (p := ⟨hb, 0 + 0, none⟩) HH.out.lt).trans ct
          obtain ⟨l1, hl1⟩ : ∃ l, fq l0 x.h x.h 0 = l := ⟨_, rfl⟩
          obtain ⟨lt, hlt⟩ : ∃ l, Wi.textL (x.h : ByteArray).data.toList = l := ⟨_, rfl⟩
          obtain ⟨l2, hl2⟩ : ∃ l, fq l0 x.h x.h 1 = l := ⟨_, rfl⟩
          have HTX := Lib.hid (fun W => show Calls Tryz.prog 37 #[.string x.h] W fun e w' => e = .returned (.string ⟨lt.toArray⟩) ∧ Below W.heap.size W w' from hlt ▸ Wi.RefText_any W x.h (by have := HSZ.out; omega))
          have AD := Lib.hid (show (⟨l1.toArray⟩ : ByteArray) ++ ⟨lt.toArray⟩ = ⟨l2.toArray⟩ ∧ ¬ 9223372036854775807 < l1.length + lt.length from ⟨by rw [app_str, ← hl1, ← hl2, ← hlt]; rfl, by rw [← hl1, ← hlt]; have := HSZ.out; have := HLK.out; have := HPL.out; have := HQL.out; simp only [fq, List.length_append, tl_len, Wi.len_list, str_size]; omega⟩)
          have HL2 := Lib.hid hl2
          rw [hl1]
          clear hl1 hlt hl2 ct
          have ad1 := AD.out.1
          have ad2 := AD.out.2
          go_wp2_with (go_at_call 37; refine (HTX.out _).mono ?_; rintro e w5 ⟨rfl, hb1⟩; skip; have HB5 := Lib.hid (HB.out.trans (hb1.mono HB.out.size)); clear hb1)
          go_roundw
          case rel =>
            have REL := Lib.hid (show ∃ j' : Nat, j' ≤ 1 ∧ Value.int .i64 1 = .int .i64 j' ∧ Value.string ⟨l2.toArray⟩ = .string ⟨(fq l0 x.h x.h j').toArray⟩ ∧ Below w2.heap.size w2 w5 from ⟨1, by decide, rfl, by rw [HL2.out], HB5.out⟩)
            first
              | exact REL.out
              | ((repeat apply Exists.intro); refine ⟨?_, rfl⟩; exact REL.out)
          case measure => (first | (simp [intOf]; done) | (simp [intOf]; omega))
        · rw [← HNX.out]
          go_wp2_with fail
          go_roundw
          case rel =>
            have REL := Lib.hid (show ∃ k' : Nat, k' ≤ 4 ∧ Value.int .i64 3 = .int .i64 k' ∧ Value.string ⟨(hk x p q 3).toArray⟩ = .string ⟨(hk x p q k').toArray⟩ ∧ Below w2.heap.size w2 wr from ⟨3, by decide, rfl, rfl, HB.out⟩)
            first
              | exact REL.out
              | ((repeat apply Exists.intro); refine ⟨?_, rfl⟩; exact REL.out)
          case measure => (first | (simp [intOf]; done) | (simp [intOf]; omega))
    · have cs := HG.out.cell 3 (v := .slice (some ⟨b3, o3, none⟩) 2 c3) rfl
      have hcs := (HB.out.cell (p := ⟨gb, 3, none⟩) HGL.out).trans cs
      obtain ⟨l0, hl0⟩ : ∃ l, hk x p q 3 = l := ⟨_, rfl⟩
      have HLK := Lib.hid (show l0.length ≤ 20000 from by rw [← hl0]; exact hk_len x p q HSZ.out HPL.out HQL.out 3 (by decide))
      have HNX := Lib.hid (show hk x p q 4 = fq l0 ⟨p.toArray⟩ ⟨q.toArray⟩ 2 from by rw [← hl0]; rfl)
      rw [hl0]
      clear hl0
      go_upto_region 6 with fail
      clear cs hcs
      go_loopw [11, 29] (fun oo ii ws => ∃ j : Nat, j ≤ 2 ∧ ii = .int .i64 j ∧ oo = .string ⟨(fq l0 ⟨p.toArray⟩ ⟨q.toArray⟩ j).toArray⟩ ∧ Below w2.heap.size w2 ws) (fun _ ii _ => 2 - (intOf ii).toNat)
      case atStart => exact ⟨0, Nat.zero_le _, rfl, rfl, HB.out⟩
      case round =>
        obtain ⟨j, hj, rfl, rfl, h1⟩ := hrel
        clear HB
        have HB := Lib.hid h1
        clear h1
        have hj3 : j = 0 ∨ j = 1 ∨ j = 2 := by omega
        clear hj
        rcases hj3 with rfl | rfl | rfl
        · have ct := HC.out.c0
          have hct := (HB.out.cell (p := ⟨b3, o3 + 0, none⟩) HC.out.lt).trans ct
          rw [Nat.add_zero] at hct
          obtain ⟨l1, hl1⟩ : ∃ l, fq l0 ⟨p.toArray⟩ ⟨q.toArray⟩ 0 = l := ⟨_, rfl⟩
          obtain ⟨lt, hlt⟩ : ∃ l, Wi.textL (⟨p.toArray⟩ : ByteArray).data.toList = l := ⟨_, rfl⟩
          obtain ⟨l2, hl2⟩ : ∃ l, fq l0 ⟨p.toArray⟩ ⟨q.toArray⟩ 1 = l := ⟨_, rfl⟩
          have HTX := Lib.hid (fun W => show Calls Tryz.prog 37 #[.string ⟨p.toArray⟩] W fun e w' => e = .returned (.string ⟨lt.toArray⟩) ∧ Below W.heap.size W w' from hlt ▸ Wi.RefText_any W ⟨p.toArray⟩ (by have := HSZ.out; rw [str_size]; have := HPL.out; have := HQL.out; omega))
          have AD := Lib.hid (show (⟨l1.toArray⟩ : ByteArray) ++ ⟨lt.toArray⟩ = ⟨l2.toArray⟩ ∧ ¬ 9223372036854775807 < l1.length + lt.length from ⟨by rw [app_str, ← hl1, ← hl2, ← hlt]; rfl, by rw [← hl1, ← hlt]; have := HSZ.out; have := HLK.out; have := HPL.out; have := HQL.out; simp only [fq, List.length_append, tl_len, Wi.len_list, str_size]; omega⟩)
          have HL2 := Lib.hid hl2
          rw [hl1]
          clear hl1 hlt hl2 ct
          have ad1 := AD.out.1
          have ad2 := AD.out.2
          go_wp2_with (go_at_call 37; refine (HTX.out _).mono ?_; rintro e w5 ⟨rfl, hb1⟩; skip; have HB5 := Lib.hid (HB.out.trans (hb1.mono HB.out.size)); clear hb1)
          go_roundw
          case rel =>
            have REL := Lib.hid (show ∃ j' : Nat, j' ≤ 2 ∧ Value.int .i64 1 = .int .i64 j' ∧ Value.string ⟨l2.toArray⟩ = .string ⟨(fq l0 ⟨p.toArray⟩ ⟨q.toArray⟩ j').toArray⟩ ∧ Below w2.heap.size w2 w5 from ⟨1, by decide, rfl, by rw [HL2.out], HB5.out⟩)
            first
              | exact REL.out
              | ((repeat apply Exists.intro); refine ⟨?_, rfl⟩; exact REL.out)
          case measure => (first | (simp [intOf]; done) | (simp [intOf]; omega))
        · have ct := HC.out.c1
          have hct := (HB.out.cell (p := ⟨b3, o3 + 1, none⟩) HC.out.lt).trans ct
          obtain ⟨l1, hl1⟩ : ∃ l, fq l0 ⟨p.toArray⟩ ⟨q.toArray⟩ 1 = l := ⟨_, rfl⟩
          obtain ⟨lt, hlt⟩ : ∃ l, Wi.textL (⟨q.toArray⟩ : ByteArray).data.toList = l := ⟨_, rfl⟩
          obtain ⟨l2, hl2⟩ : ∃ l, fq l0 ⟨p.toArray⟩ ⟨q.toArray⟩ 2 = l := ⟨_, rfl⟩
          have HTX := Lib.hid (fun W => show Calls Tryz.prog 37 #[.string ⟨q.toArray⟩] W fun e w' => e = .returned (.string ⟨lt.toArray⟩) ∧ Below W.heap.size W w' from hlt ▸ Wi.RefText_any W ⟨q.toArray⟩ (by have := HSZ.out; rw [str_size]; have := HPL.out; have := HQL.out; omega))
          have AD := Lib.hid (show (⟨l1.toArray⟩ : ByteArray) ++ ⟨lt.toArray⟩ = ⟨l2.toArray⟩ ∧ ¬ 9223372036854775807 < l1.length + lt.length from ⟨by rw [app_str, ← hl1, ← hl2, ← hlt]; rfl, by rw [← hl1, ← hlt]; have := HSZ.out; have := HLK.out; have := HPL.out; have := HQL.out; simp only [fq, List.length_append, tl_len, Wi.len_list, str_size]; omega⟩)
          have HL2 := Lib.hid hl2
          rw [hl1]
          clear hl1 hlt hl2 ct
          have ad1 := AD.out.1
          have ad2 := AD.out.2
          go_wp2_with (go_at_call 37; refine (HTX.out _).mono ?_; rintro e w5 ⟨rfl, hb1⟩; skip; have HB5 := Lib.hid (HB.out.trans (hb1.mono HB.out.size)); clear hb1)
          go_roundw
          case rel =>
            have REL := Lib.hid (show ∃ j' : Nat, j' ≤ 2 ∧ Value.int .i64 2 = .int .i64 j' ∧ Value.string ⟨l2.toArray⟩ = .string ⟨(fq l0 ⟨p.toArray⟩ ⟨q.toArray⟩ j').toArray⟩ ∧ Below w2.heap.size w2 w5 from ⟨2, by decide, rfl, by rw [HL2.out], HB5.out⟩)
            first
              | exact REL.out
              | ((repeat apply Exists.intro); refine ⟨?_, rfl⟩; exact REL.out)
          case measure => (first | (simp [intOf]; done) | (simp [intOf]; omega))
        · rw [← HNX.out]
          go_wp2_with fail
          go_roundw
          case rel =>
            have REL := Lib.hid (show ∃ k' : Nat, k' ≤ 4 ∧ Value.int .i64 4 = .int .i64 k' ∧ Value.string ⟨(hk x p q 4).toArray⟩ = .string ⟨(hk x p q k').toArray⟩ ∧ Below w2.heap.size w2 wr from ⟨4, by decide, rfl, rfl, HB.out⟩)
            first
              | exact REL.out
              | ((repeat apply Exists.intro); refine ⟨?_, rfl⟩; exact REL.out)
          case measure => (first | (simp [intOf]; done) | (simp [intOf]; omega))
    · obtain ⟨l4, hl4⟩ : ∃ l, hk x p q 4 = l := ⟨_, rfl⟩
      have HL4 := Lib.hid (show l4.length ≤ 20000 from by rw [← hl4]; exact hk_len x p q HSZ.out HPL.out HQL.out 4 (by decide))
      obtain ⟨l5, hl5⟩ : ∃ l, l4 ++ bt = l := ⟨_, rfl⟩
      have HE := Lib.hid (show l5 = hsL x p q s from by rw [← hl5, ← hl4]; exact HEND.out)
      have AD := Lib.hid (show (⟨l4.toArray⟩ : ByteArray) ++ ⟨bt.toArray⟩ = ⟨l5.toArray⟩ ∧ ¬ 9223372036854775807 < l4.length + bt.length from ⟨by rw [app_str, hl5], by have := HL4.out; have := HBT.out; omega⟩)
      obtain ⟨zs, hzs⟩ : ∃ l, Sha.sha 32 l5 = l := ⟨_, rfl⟩
      have HSU := Lib.hid (fun W => show Calls Tryz.prog 33 #[.string ⟨l5.toArray⟩] W fun e w' => e = .returned (.string ⟨zs.toArray⟩) ∧ Below W.heap.size W w' from by
        have := RefSum_list W l5 (by rw [← hl5, List.length_append]; have := HL4.out; have := HBT.out; omega)
        rwa [hzs] at this)
      have HRES := Lib.hid (show Sha.sha 32 (hsL x p q s) = zs from by rw [← HE.out, hzs])
      rw [hl4]
      clear hl4 hl5 hzs
      have ad1 := AD.out.1
      have ad2 := AD.out.2
      go_wp2_with (first
        | (go_at_call 34; refine (HBC.out _).mono ?_; rintro e w5 ⟨rfl, hb1⟩; skip; have HB5 := Lib.hid (HB.out.trans (hb1.mono HB.out.size)); clear hb1)
        | (go_at_call 33; refine (HSU.out _).mono ?_; rintro e w6 ⟨rfl, hb1⟩; skip; have HB6 := Lib.hid (HB5.out.trans (hb1.mono HB5.out.size)); clear hb1))
      go_ret
      exact ⟨by rw [HRES.out]; rfl, HBW.out.trans (HB6.out.mono HBW.out.size)⟩
end Go.Proofs.YtfaeigbfnjkojaaGreatDoor.Kx
