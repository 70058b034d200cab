/- The laws ShaSums and ShaEnds: the walks. -/
import Derived.Test.YtoehmjkgjleaaaaDoorShaAwake
import Derived.Test.YtoehmjkgjleaaaaDoorRefSum32
import Derived.Test.YtoehmjkgjleaaaaDoorRefSum64
import Derived.WalkLawsBesides
import Derived.OpenShut
set_option linter.unusedVariables false
set_option linter.unusedSimpArgs false
namespace Go.Proofs.YtoehmjkgjleaaaaDoor.Sha
open Go.RowKit Go.Proofs.YtoehmjkgjleaaaaDoor.Cl Go.Proofs.YtoehmjkgjleaaaaDoor.Cv
@[irreducible] def shaS (W : Nat) (s : ByteArray) : ByteArray := ⟨(sha W s.data.toList).toArray⟩
theorem shaS_eq (W : Nat) (s : ByteArray) : (⟨(sha W s.data.toList).toArray⟩ : ByteArray) = shaS W s := by unfold shaS; rfl
theorem RefSum256_any (w : World) (s : ByteArray) (hs : s.size ≤ 1000000) : Calls Tryd.prog 14 #[.string s] w fun e w' => e = .returned (.string (shaS 32 s)) ∧ Below w.heap.size w w' := by
  go_enter Tryd.func14, Tryd.ntmps14
  go_wp2_with (go_at_call 27; refine (refsum32 _ _ hs).mono ?_; rintro e w1 ⟨rfl, hb1⟩; skip; have HB1 := Lib.hid hb1; clear hb1)
  go_ret
  exact ⟨by rw [← shaS_eq]; rfl, HB1.out⟩
theorem RefSum512_any (w : World) (s : ByteArray) (hs : s.size ≤ 1000000) : Calls Tryd.prog 15 #[.string s] w fun e w' => e = .returned (.string (shaS 64 s)) ∧ Below w.heap.size w w' := by
  go_enter Tryd.func15, Tryd.ntmps15
  go_wp2_with (go_at_call 27; refine (refsum64 _ _ hs).mono ?_; rintro e w1 ⟨rfl, hb1⟩; skip; have HB1 := Lib.hid hb1; clear hb1)
  go_ret
  exact ⟨by rw [← shaS_eq]; rfl, HB1.out⟩
/-- the string of a sum's bytes, in whatever later world -/
theorem run_shaS {w w' : World} (W : Nat) (hW : W = 32 ∨ W = 64) (s : ByteArray) (b T B : Nat) (h : Rg.Blk w b T (bytesV (sha W s.data.toList))) (hb : Below B w w') (hB : b < B) :
    (convert 28 9 (.slice (some ⟨b, 0, none⟩) W W)).run Tryd.prog w' = .ok (.string (shaS W s)) w' := by
  have := run_string_len (P := Tryd.prog) w' 28 5 9 Tryd.underlying28 Tryd.underlying5 Tryd.underlying9 b 0 W W (sha W s.data.toList) (sha_length W hW _) ((Bytes.of_blk h).below hb hB)
  rw [this, shaS_eq]
set_option maxRecDepth 20000 in
set_option maxHeartbeats 1000000 in
theorem law_ShaSums (w : World) (s : ByteArray) (hT : Tables w) : Calls Tryd.prog 3 #[.string s] w fun e w' => e = .returned (.bool true) ∧ Below w.heap.size w w' := by
  have HT := Lib.hid hT
  clear hT
  have hsz : (s.extract 0 600).size ≤ 1000000 := by rw [ByteArray.size_extract]; omega
  have Hsz := Lib.hid hsz
  clear hsz
  go_enter Tryd.func3, Tryd.ntmps3
  go_wp2_with (first
    | (go_at_call 10; refine (awake_any _ HT.out).mono ?_; rintro e w0 ⟨rfl, hb0⟩; skip; have HB0 := Lib.hid hb0; have HT0 := Lib.hid (HT.out.below hb0 HT.out.size); clear hb0)
    | (go_at_call 11; refine (Cut_any _ s 600 (by decide)).mono ?_; rintro e w1' ⟨rfl, rfl⟩; skip; generalize s.extract 0 600 = t at *; have HZ1 := Lib.hid (show (bytesV (sha 32 t.data.toList)).size = 32 by rw [bytesV_size, sha_length 32 (by decide)]); have HZ2 := Lib.hid (show (bytesV (sha 64 t.data.toList)).size = 64 by rw [bytesV_size, sha_length 64 (by decide)]))
    | (go_at_call 12; refine (Sum256_one _ _ _ HT0.out Hsz.out).mono ?_; rintro e w1 ⟨rfl, hb1⟩; skip; have HB1 := Lib.hid hb1; have HT1 := Lib.hid (HT0.out.below hb1 HT0.out.size); clear hb1)
    | (go_at_call 13; refine (Sum512_one _ _ _ HT1.out Hsz.out).mono ?_; rintro e w2 ⟨rfl, hb2⟩; skip; have HB2 := Lib.hid hb2; clear hb2; have tok := True.intro)
    | (have _t := tok
       refine store_blk rfl 24 _ _ rfl w2.heap.size (bytesV (sha 32 t.data.toList)) _ 24 rfl rfl ((Rg.Blk.new w2 _ _).alloc _) (by rw [HZ1.out]; rfl) (by rw [HZ1.out]; rfl) (bytesV_one _) ?_
       intro X hX hgX
       have HX := Lib.hid hX
       have HQ := Lib.hid (show ∃ cs : Array Value, cs.size = 64 ∧ Rg.Blk X (w2.heap.size + 1) 26 cs from ⟨_, rfl, blk_grown (Rg.Blk.newAt (by simp) _ _) hgX (by omega)⟩)
       have HBX := Lib.hid (show Below w2.heap.size w2 X from (((Below.refl _ _).alloc (Nat.le_refl _) _).alloc (by simp) _).grown hgX (by simp; omega) (fun k hk => by cases hk; exact Nat.le_refl _))
       clear hX hgX _t tok; have tok2 := True.intro)
    | (have _t := tok2
       obtain ⟨cs, hcs, hB⟩ := HQ.out
       refine store_blk rfl 26 _ _ rfl (w2.heap.size + 1) (bytesV (sha 64 t.data.toList)) cs 26 rfl rfl hB (by rw [HZ2.out]; rfl) (by rw [HZ2.out]; exact hcs) (bytesV_one _) ?_
       intro Y hY hgY
       have HY := Lib.hid hY
       have HXY := Lib.hid (blk_grown HX.out hgY (by omega))
       have HBY := Lib.hid (show Below w2.heap.size w2 Y from HBX.out.grown hgY HBX.out.size (fun k hk => by cases hk; omega))
       clear hY hgY hcs hB _t tok2; have tok3 := True.intro))
  try simp only [Act.put]
  have R1 := fun x : Rg.Later Y.heap.size Y => run_shaS 32 (by decide) t w2.heap.size _ _ HXY.out x.is HXY.out.lt
  have R2 := fun x : Rg.Later Y.heap.size Y => run_shaS 64 (by decide) t (w2.heap.size + 1) _ _ HY.out x.is HY.out.lt
  refine Rg.wp_region_later_all Y.heap.size (by kernel_rfl) (by kernel_rfl) ?_
  repeat (go_big_quiet_step (first
    | (go_at_call 14; exact Rg.later_of (Nat.le_refl _) (RefSum256_any _ _ Hsz.out))
    | (go_at_call 15; exact Rg.later_of (Nat.le_refl _) (RefSum512_any _ _ Hsz.out))))
  refine wpQuiet_nil ?_
  rintro _ ⟨s9, rfl⟩
  clear R1 R2
  go_wp2_with fail
  go_ret
  have h0 := HB0.out.size
  have h1 := HB1.out.size
  have h2 := HB2.out.size
  have h3 := HBY.out.size
  exact ⟨by simp, (((HB0.out.trans (HB1.out.mono (by omega))).trans (HB2.out.mono (by omega))).trans (HBY.out.mono (by omega))).trans (s9.is.mono (by omega))⟩
set_option maxRecDepth 20000 in
set_option maxHeartbeats 1000000 in
theorem law_ShaEnds (w : World) (n : Int) (hn : (Lit.int .i64 n).wf = true) (b : Int) (hb : (Lit.int .u8 b).wf = true) (hT : Tables w) : Calls Tryd.prog 5 #[.int .i64 n, .int .u8 b] w fun e w' => e = .returned (.bool true) ∧ Below w.heap.size w w' := by
  have HT := Lib.hid hT
  clear hT hn
  obtain ⟨c, hc⟩ : ∃ c : UInt8, b = c.toNat := ⟨UInt8.ofNat b.toNat, by have := bounds_u8 hb; rw [UInt8.toNat_ofNat']; omega⟩
  subst hc
  clear hb
  obtain ⟨p, hp⟩ : ∃ p, min n 300 = p := ⟨_, rfl⟩
  have hpl : p ≤ 300 := by omega
  obtain ⟨m, hm⟩ : ∃ m : Nat, max 0 p = (m : Int) := ⟨(max 0 p).toNat, by omega⟩
  have hml : m ≤ 300 := by omega
  clear hpl
  go_enter Tryd.func5, Tryd.ntmps5
  go_wp2_with (go_at_call 10; refine (awake_any _ HT.out).mono ?_; rintro e w00 ⟨rfl, hb0⟩; skip; have HB00 := Lib.hid hb0; clear hb0)
  clear hp hm
  go_loopw [5, 14] (fun t i wr => ∃ (k : Nat) (o : ByteArray), k ≤ m ∧ i = .int .i64 k ∧ t = .string o ∧ o.size = k ∧ Below w.heap.size w wr) (fun _ i _ => m - (intOf i).toNat)
  case atStart => exact ⟨0, _, Nat.zero_le _, rfl, rfl, rfl, HB00.out⟩
  case round =>
    obtain ⟨k, o, hk, rfl, rfl, ho, hb⟩ := hrel
    have hol : o.size ≤ 300 := by omega
    have HO := Lib.hid ho
    have HB := Lib.hid hb
    clear ho hb HB00
    rcases Nat.lt_or_ge k m with hkm | hkm
    case inl =>
      have hq : ¬ 9223372036854775807 < o.size + 1 := by omega
      go_wp2_with (refine conv_string rfl 28 5 9 _ rfl Tryd.underlying28 Tryd.underlying5 Tryd.underlying9 _ 0 1 1 [c] rfl rfl (one_byte _ _ _ _ rfl) ?_)
      go_roundw
      case rel =>
        first
          | exact ⟨k + 1, _, by omega, by go_num, rfl, by rw [ByteArray.size_append, HO.out]; rfl, HB.out.alloc HB.out.size _⟩
          | ((repeat apply Exists.intro); refine ⟨?_, rfl⟩; exact ⟨k + 1, _, by omega, by go_num, rfl, by rw [ByteArray.size_append, HO.out]; rfl, HB.out.alloc HB.out.size _⟩)
      case measure => simp [intOf]; omega
    have Hsz := Lib.hid (show o.size ≤ 1000000 by omega)
    have HZ1 := Lib.hid (show (bytesV (sha 32 o.data.toList)).size = 32 by rw [bytesV_size, sha_length 32 (by decide)])
    have HZ2 := Lib.hid (show (bytesV (sha 64 o.data.toList)).size = 64 by rw [bytesV_size, sha_length 64 (by decide)])
    have HB0 := HB
    have HT0 := Lib.hid (HT.out.below HB.out HT.out.size)
    clear HO HB HT hol
    obtain ⟨w0, hw0⟩ : ∃ w0, w0 = wr := ⟨_, rfl⟩
    subst hw0
    generalize o = t at *
    go_wp2_with (first
      | (go_at_call 12; refine (Sum256_one _ _ _ HT0.out Hsz.out).mono ?_; rintro e w1 ⟨rfl, hb1⟩; skip; have HB1 := Lib.hid hb1; have HT1 := Lib.hid (HT0.out.below hb1 HT0.out.size); clear hb1)
      | (go_at_call 13; refine (Sum512_one _ _ _ HT1.out Hsz.out).mono ?_; rintro e w2 ⟨rfl, hb2⟩; skip; have HB2 := Lib.hid hb2; clear hb2; have tok := True.intro)
      | (have _t := tok
         refine store_blk rfl 24 _ _ rfl w2.heap.size (bytesV (sha 32 t.data.toList)) _ 24 rfl rfl ((Rg.Blk.new w2 _ _).alloc _) (by rw [HZ1.out]; rfl) (by rw [HZ1.out]; rfl) (bytesV_one _) ?_
         intro X hX hgX
         have HX := Lib.hid hX
         have HQ := Lib.hid (show ∃ cs : Array Value, cs.size = 64 ∧ Rg.Blk X (w2.heap.size + 1) 26 cs from ⟨_, rfl, blk_grown (Rg.Blk.newAt (by simp) _ _) hgX (by omega)⟩)
         have HBX := Lib.hid (show Below w2.heap.size w2 X from (((Below.refl _ _).alloc (Nat.le_refl _) _).alloc (by simp) _).grown hgX (by simp; omega) (fun k hk => by cases hk; exact Nat.le_refl _))
         clear hX hgX _t tok; have tok2 := True.intro)
      | (have _t := tok2
         obtain ⟨cs, hcs, hB⟩ := HQ.out
         refine store_blk rfl 26 _ _ rfl (w2.heap.size + 1) (bytesV (sha 64 t.data.toList)) cs 26 rfl rfl hB (by rw [HZ2.out]; rfl) (by rw [HZ2.out]; exact hcs) (bytesV_one _) ?_
         intro Y hY hgY
         have HY := Lib.hid hY
         have HXY := Lib.hid (blk_grown HX.out hgY (by omega))
         have HBY := Lib.hid (show Below w2.heap.size w2 Y from HBX.out.grown hgY HBX.out.size (fun k hk => by cases hk; omega))
         clear hY hgY hcs hB _t tok2; have tok3 := True.intro))
    try simp only [Act.put]
    have R1 := fun x : Rg.Later Y.heap.size Y => run_shaS 32 (by decide) t w2.heap.size _ _ HXY.out x.is HXY.out.lt
    have R2 := fun x : Rg.Later Y.heap.size Y => run_shaS 64 (by decide) t (w2.heap.size + 1) _ _ HY.out x.is HY.out.lt
    refine Rg.wp_region_later_all Y.heap.size (by kernel_rfl) (by kernel_rfl) ?_
    repeat (go_big_quiet_step (first
      | (go_at_call 14; exact Rg.later_of (Nat.le_refl _) (RefSum256_any _ _ Hsz.out))
      | (go_at_call 15; exact Rg.later_of (Nat.le_refl _) (RefSum512_any _ _ Hsz.out))))
    refine wpQuiet_nil ?_
    rintro _ ⟨s9, rfl⟩
    clear R1 R2
    go_wp2_with fail
    go_ret
    have h0 := HB0.out.size
    have h1 := HB1.out.size
    have h2 := HB2.out.size
    have h3 := HBY.out.size
    exact ⟨by simp, (((HB0.out.trans (HB1.out.mono (by omega))).trans (HB2.out.mono (by omega))).trans (HBY.out.mono (by omega))).trans (s9.is.mono (by omega))⟩
end Go.Proofs.YtoehmjkgjleaaaaDoor.Sha
