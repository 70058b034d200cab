/- The words of a block. A block goes into the words. -/
import Derived.Test.YtfaeigbfnjkojaaGreatDoorShaA
import Derived.Test.YtfaeigbfnjkojaaGreatDoorGenA
import Derived.Laws.CopyOwn
set_option linter.unusedVariables false
set_option linter.unusedSimpArgs false
namespace Go.Proofs.YtfaeigbfnjkojaaGreatDoor.Sha
open Go.RowKit Go.Proofs.YtfaeigbfnjkojaaGreatDoor.Cl

theorem zero80 : Tryz.zeroCells163 = Cl.u64s (pad80 []) := by
  rfl
theorem wrap_u64_add (a b : Nat) : IntKind.u64.wrap ((a : Int) + (b : Int)) = (((a + b) % 18446744073709551616 : Nat) : Int) := by
  rw [IntKind.wrap_u64]; omega
attribute [local go_sem] wrap_u64_add
theorem sched_word (W : Nat) (blk : List UInt8) (k : Nat) (h : k < 80) (h16 : k < 16) : (pad80 (sched W blk k)).set k (part W blk k (W / 8)) = pad80 (sched W blk (k + 1)) := by
  have hl := sched_length W blk k
  have e : sched W blk (k + 1) = sched W blk k ++ [part W blk k (W / 8)] := by simp [sched, h16, part]
  have := pad80_set (sched W blk k) (part W blk k (W / 8)) (by omega)
  rw [e, ← this, hl]
theorem sched_part0 (W : Nat) (blk : List UInt8) (k : Nat) (h : k < 80) : (pad80 (sched W blk k)).set k (part W blk k 0) = pad80 (sched W blk k) := by
  have hl := sched_length W blk k
  have h0 := pad80_at (sched W blk k) (by omega)
  have h8 := pad80_length (sched W blk k) (by omega)
  rw [hl] at h0
  have e : part W blk k 0 = (pad80 (sched W blk k))[k]'(by omega) := by
    rw [nth_getD, List.getD_eq_getElem?_getD, List.getElem?_eq_getElem (by omega)] at h0
    simpa [part, beN] using h0.symm
  rw [e, List.set_getElem_self]
theorem sched_next (W : Nat) (blk : List UInt8) (k : Nat) (h : k < 80) (h16 : ¬ k < 16) (v : Nat)
    (hv : v = (sg1 W (nth (sched W blk k) (k - 2)) + nth (sched W blk k) (k - 7) + sg0 W (nth (sched W blk k) (k - 15)) + nth (sched W blk k) (k - 16)) % 2 ^ W) :
    (pad80 (sched W blk k)).set k v = pad80 (sched W blk (k + 1)) := by
  have hl := sched_length W blk k
  have e : sched W blk (k + 1) = sched W blk k ++ [v] := by simp [sched, h16, hv]
  have := pad80_set (sched W blk k) v (by omega)
  rw [e, ← this, hl]
theorem pad_get (W : Nat) (blk : List UInt8) (k i : Nat) (hi : i < k) : nth (pad80 (sched W blk k)) i = nth (sched W blk k) i :=
  pad80_getD _ _ (by rw [sched_length]; exact hi)
theorem set_getD (l : List Nat) (k v : Nat) (h : k < l.length) : nth (l.set k v) k = v := by
  simp [nth, List.getD_eq_getElem?_getD, h]
theorem shl_or (W : Nat) (blk : List UInt8) (k j : Nat) (b : UInt8) (hj : j < 8) (hb : k * (W / 8) + j < blk.length) (hb' : blk[k * (W / 8) + j] = b) :
    bits .or .u64 (IntKind.u64.wrap ((part W blk k j : Int) * 256)) (IntKind.u64.wrap (b.toNat : Int)) = ((part W blk k (j + 1) : Nat) : Int) := by
  have hp := part_lt W blk k j
  have hm : 256 ^ j ≤ 256 ^ 7 := Nat.pow_le_pow_right (by decide) (by omega)
  have h7 : (256 : Nat) ^ 7 = 72057594037927936 := by decide
  have e : IntKind.u64.wrap ((part W blk k j : Int) * 256) = ((part W blk k j * 256 : Nat) : Int) := by rw [IntKind.wrap_u64]; omega
  have e2 : IntKind.u64.wrap (b.toNat : Int) = (b.toNat : Int) := by rw [IntKind.wrap_u64]; have := b.toNat_lt; omega
  rw [e, e2, u64_or_nat _ _ (by omega) (by have := b.toNat_lt; omega), or_byte, part_succ W blk k j hb, hb']

set_option maxRecDepth 20000 in
set_option maxHeartbeats 1000000 in
theorem sched256 (w : World) (s : ByteArray) (hs : s.size = 64) : Calls Tryz.prog 86 #[K256, .string s] w fun e w' => e = .returned (.agg (Cl.u64s (msg 32 s.data.toList))) ∧ Below w.heap.size w w' := by
  rw [msg32]
  have hlen : s.data.toList.length = 64 := by simpa using hs
  unfold K256
  have k0 : k256c[0]? = some (.int .i64 32) := rfl
  have k1 : k256c[1]? = some (.int .i64 64) := rfl
  go_enter Tryz.func86, Tryz.ntmps86
  go_wp2_with fail
  clear k0 k1
  generalize hW : World.alloc (World.alloc (World.alloc w _) _) _ = W
  have hn : W.heap.size = w.heap.size + 1 + 1 + 1 := by subst hW; simp
  have hBW := Lib.hid (show Below w.heap.size w W by subst hW; exact (((Below.refl _ _).alloc (Nat.le_refl _) _).alloc (by simp) _).alloc (by simp; omega) _)
  have HK := Lib.hid (show Rg.Blk W w.heap.size 102 k256c by subst hW; exact ((Rg.Blk.new _ _ _).alloc _).alloc _)
  have HT := Lib.hid (show Rg.Blk W (w.heap.size + 1) 163 Tryz.zeroCells163 by subst hW; refine Rg.Blk.alloc (Rg.Blk.newAt ?_ _ _) _; simp)
  have HR0 := Lib.hid (show Cl.Row W (w.heap.size + 1 + 1) 163 (pad80 (sched 32 s.data.toList 0)) by subst hW; refine Rg.Blk.newAt ?_ _ _; simp)
  have HN := Lib.hid hn
  clear hW hn
  go_loopw [14] (fun i wr => ∃ k : Nat, k ≤ 64 ∧ i = .int .i64 k ∧ Cl.Row wr (w.heap.size + 1 + 1) 163 (pad80 (sched 32 s.data.toList k)) ∧ Below (w.heap.size + 1 + 1) W wr) (fun i _ => 64 - (intOf i).toNat)
  case atStart => exact ⟨0, by decide, rfl, HR0.out, Below.refl _ _⟩
  case round =>
    obtain ⟨k, hk, rfl, hR, hb⟩ := hrel
    have HR := Lib.hid hR
    have HB := Lib.hid hb
    have HK' := Lib.hid (HK.out.below hb (by omega))
    clear hR HR0 hb
    by_cases hlt : k < 64
    · have h80 := Lib.hid (pad80_length (sched 32 s.data.toList k) (by rw [sched_length]; omega))
      by_cases h16 : k < 16
      · go_wp2_with fail
        obtain ⟨wo, rfl⟩ : ∃ wo : World, wo = wr := ⟨_, rfl⟩
        go_loopw [20] (fun i wr => ∃ j : Nat, j ≤ 4 ∧ i = .int .i64 j ∧ Cl.Row wr (w.heap.size + 1 + 1) 163 ((pad80 (sched 32 s.data.toList k)).set k (part 32 s.data.toList k j)) ∧ Below (w.heap.size + 1 + 1) W wr) (fun i _ => 4 - (intOf i).toNat)
        case atStart => exact ⟨0, by decide, rfl, by rw [sched_part0 _ _ _ (by omega)]; exact HR.out, HB.out⟩
        case round =>
          obtain ⟨j, hj, rfl, hR2, hb2⟩ := hrel
          have HR2 := Lib.hid hR2
          have HB2 := Lib.hid hb2
          clear hR2 hb2
          by_cases hjn : j < 4
          · go_wp2_with fail
            have hc := fun (t : Rg.Later wr.heap.size wr) => (t.cell (w.heap.size + 1 + 1) k HR2.out.lt).trans (HR2.out.cell k (by rw [List.length_set, h80.out]; omega))
            rw [set_getD _ _ _ (by rw [h80.out]; omega)] at hc
            have hf := fun t : Rg.Later wr.heap.size wr => (t.frozen (w.heap.size + 1 + 1) k HR2.out.lt).trans (HR2.out.frozen k)
            have hi0 : 0 ≤ (k : Int) * 4 + j := by omega
            have hi1 : (k : Int) * 4 + j < 64 := by omega
            refine Rg.wp_region_later wr.heap.size 15 (by kernel_rfl) (by kernel_rfl) ?_
            simp only [List.take_succ_cons, List.take_zero, List.drop_succ_cons, List.drop_zero]
            repeat (go_big_quiet_step (fail))
            refine wpQuiet_nil ?_
            rintro _ ⟨t, rfl⟩
            go_wp2
            go_roundw
            case rel =>
              refine ⟨j + 1, by omega, by go_num, ?_, (HB2.out.trans (t.is.mono (by have := HR2.out.lt; omega))).setCell (Nat.le_refl _) _⟩
              have hb : k * (32 / 8) + j < s.data.toList.length := by rw [hlen]; omega
              have hv := shl_or 32 s.data.toList k j s[k * 4 + j] (by omega) hb rfl
              rw [hv]
              have := (HR2.out.below t.is HR2.out.lt).store k (part 32 s.data.toList k (j + 1))
              rwa [List.set_set] at this
            case measure => simp [intOf]; omega
          · obtain rfl : j = 4 := by omega
            go_wp2_with fail
            go_roundw
            case rel => exact ⟨k + 1, by omega, by go_num, by rw [← sched_word _ _ _ (by omega) h16]; exact HR2.out, HB2.out⟩
            case measure => simp [intOf]; omega
      · have hsl := sched_lt 32 (by decide) s.data.toList k
        have hg := fun i => getD_lt hsl (Nat.two_pow_pos 32) i
        have Hg := Lib.hid (show ∀ i, nth (sched 32 s.data.toList k) i < 4294967296 from hg)
        clear hsl hg
        go_wp2_with fail
        have hlw : w.heap.size + 1 + 1 < wr.heap.size := HR.out.lt
        have HL : Hid (w.heap.size < wr.heap.size) := Lib.hid (by omega)
        have c2 := HK'.out.cellL HL.out 2 (v := .int .i64 7) rfl
        have c3 := HK'.out.cellL HL.out 3 (v := .int .i64 18) rfl
        have c4 := HK'.out.cellL HL.out 4 (v := .int .i64 3) rfl
        have c5 := HK'.out.cellL HL.out 5 (v := .int .i64 17) rfl
        have c6 := HK'.out.cellL HL.out 6 (v := .int .i64 19) rfl
        have c7 := HK'.out.cellL HL.out 7 (v := .int .i64 10) rfl
        have hF : ∀ i, i < k → ∀ t : Rg.Later wr.heap.size wr, t.val.cell? ⟨w.heap.size + 1 + 1, i, none⟩ = some (.int .u64 (nth (sched 32 s.data.toList k) i : Nat)) := fun i hi t => by
          rw [← pad_get _ _ _ _ hi]
          exact (t.cell (w.heap.size + 1 + 1) i HR.out.lt).trans (HR.out.cell i (by rw [h80.out]; omega))
        have f2 := hF (k - 2) (by omega)
        have f7 := hF (k - 7) (by omega)
        have f15 := hF (k - 15) (by omega)
        have f16 := hF (k - 16) (by omega)
        clear hF
        have i2 : (2 : Int) ≤ k ∧ (k : Int) - 2 < 80 := by omega
        have i7 : (7 : Int) ≤ k ∧ (k : Int) - 7 < 80 := by omega
        have i15 : (15 : Int) ≤ k ∧ (k : Int) - 15 < 80 := by omega
        have i16 : (16 : Int) ≤ k ∧ (k : Int) - 16 < 80 := by omega
        have h16' : 16 ≤ k := by omega
        have ik : (k : Int) < 80 := by omega
        have hf := fun t : Rg.Later wr.heap.size wr => (t.frozen (w.heap.size + 1 + 1) k HR.out.lt).trans (HR.out.frozen k)
        have hck := fun t : Rg.Later wr.heap.size wr => (t.cell (w.heap.size + 1 + 1) k HR.out.lt).trans (HR.out.cell k (by rw [h80.out]; omega))
        refine Rg.wp_region_later wr.heap.size 31 (by kernel_rfl) (by kernel_rfl) ?_
        simp only [List.take_succ_cons, List.take_zero, List.drop_succ_cons, List.drop_zero]
        repeat (first | (go_big_quiet_want; refine Rg.quiet_load_row 102 _ rfl _ rfl _ _ _ (HK'.out.later HL.out) Tryz.underlying102 rfl rfl ?_; simp only [Act.put, List.setIfInBounds_toArray, List.set_cons_succ, List.set_cons_zero]; go_big_quiet_on) | go_big_quiet_step (first | (go_at_call 97; exact Rg.later_of (Nat.le_refl _) (small256_any _ _ _ _ _ (Hg.out _) (by decide) (by decide) (by decide) (by decide) (by decide) (by decide))) | (go_at_call 88; exact Rg.later_of (Nat.le_refl _) (cut256_any _ _))))
        refine wpQuiet_nil ?_
        rintro _ ⟨t, rfl⟩
        go_wp2
        go_roundw
        case rel =>
          refine ⟨k + 1, by omega, by go_num, ?_, (HB.out.trans (t.is.mono (by omega))).setCell (Nat.le_refl _) _⟩
          have hv := sched_next 32 s.data.toList k (by omega) h16 _ rfl
          rw [← hv]
          refine (HR.out.below t.is HR.out.lt).storeI k _ ?_
          simp only [sg0, sg1, if_true]
          omega
        case measure => simp [intOf]; omega
    · obtain rfl : k = 64 := by omega
      have h80 := pad80_length (sched 32 s.data.toList 64) (by rw [sched_length]; omega)
      have hsz : (Cl.u64s (pad80 (sched 32 s.data.toList 64))).size = 80 := by simp [Cl.u64s, h80]
      have HS := Lib.hid hsz
      have HT' := Lib.hid (HT.out.below HB.out (by omega))
      have HHB := Lib.hid HB.out
      clear hsz h80
      go_wp2_with (first
        | (refine wpList_load_row rfl 163 _ rfl _ rfl _ _ _ _ HR.out Tryz.underlying163 rfl (by rw [HS.out]; rfl) ?_)
        | (refine wpList_store_row rfl 163 _ _ rfl _ _ rfl rfl _ _ HT'.out (by rw [HS.out]; rfl) (by rw [HS.out]; rfl) (Cl.u64s_one _) ?_))
      have hb1 : Below w.heap.size w wr := hBW.out.trans (HHB.out.mono (by omega))
      exact bodyPost_ret (v := .agg (Cl.u64s (pad80 (sched 32 s.data.toList 64))))
        (results_cell_row Tryz.results86 _ _ (w.heap.size + 1) 163 _ (0, 0) _ rfl (setRow_heap _ _ _ _ _ _ HT'.out) Tryz.underlying163 rfl (by rw [HS.out]; rfl)) rfl
        ⟨rfl, Rg.below_setRow hb1 (by omega) _⟩

set_option maxRecDepth 20000 in
set_option maxHeartbeats 1000000 in
theorem sched512 (w : World) (s : ByteArray) (hs : s.size = 128) : Calls Tryz.prog 86 #[K512, .string s] w fun e w' => e = .returned (.agg (Cl.u64s (msg 64 s.data.toList))) ∧ Below w.heap.size w w' := by
  rw [msg64]
  have hlen : s.data.toList.length = 128 := by simpa using hs
  unfold K512
  have k0 : k512c[0]? = some (.int .i64 64) := rfl
  have k1 : k512c[1]? = some (.int .i64 80) := rfl
  go_enter Tryz.func86, Tryz.ntmps86
  go_wp2_with fail
  clear k0 k1
  generalize hW : World.alloc (World.alloc (World.alloc w _) _) _ = W
  have hn : W.heap.size = w.heap.size + 1 + 1 + 1 := by subst hW; simp
  have hBW := Lib.hid (show Below w.heap.size w W by subst hW; exact (((Below.refl _ _).alloc (Nat.le_refl _) _).alloc (by simp) _).alloc (by simp; omega) _)
  have HK := Lib.hid (show Rg.Blk W w.heap.size 102 k512c by subst hW; exact ((Rg.Blk.new _ _ _).alloc _).alloc _)
  have HT := Lib.hid (show Rg.Blk W (w.heap.size + 1) 163 Tryz.zeroCells163 by subst hW; refine Rg.Blk.alloc (Rg.Blk.newAt ?_ _ _) _; simp)
  have HR0 := Lib.hid (show Cl.Row W (w.heap.size + 1 + 1) 163 (pad80 (sched 64 s.data.toList 0)) by subst hW; refine Rg.Blk.newAt ?_ _ _; simp)
  have HN := Lib.hid hn
  clear hW hn
  go_loopw [14] (fun i wr => ∃ k : Nat, k ≤ 80 ∧ i = .int .i64 k ∧ Cl.Row wr (w.heap.size + 1 + 1) 163 (pad80 (sched 64 s.data.toList k)) ∧ Below (w.heap.size + 1 + 1) W wr) (fun i _ => 80 - (intOf i).toNat)
  case atStart => exact ⟨0, by decide, rfl, HR0.out, Below.refl _ _⟩
  case round =>
    obtain ⟨k, hk, rfl, hR, hb⟩ := hrel
    have HR := Lib.hid hR
    have HB := Lib.hid hb
    have HK' := Lib.hid (HK.out.below hb (by omega))
    clear hR HR0 hb
    by_cases hlt : k < 80
    · have h80 := Lib.hid (pad80_length (sched 64 s.data.toList k) (by rw [sched_length]; omega))
      by_cases h16 : k < 16
      · go_wp2_with fail
        obtain ⟨wo, rfl⟩ : ∃ wo : World, wo = wr := ⟨_, rfl⟩
        go_loopw [20] (fun i wr => ∃ j : Nat, j ≤ 8 ∧ i = .int .i64 j ∧ Cl.Row wr (w.heap.size + 1 + 1) 163 ((pad80 (sched 64 s.data.toList k)).set k (part 64 s.data.toList k j)) ∧ Below (w.heap.size + 1 + 1) W wr) (fun i _ => 8 - (intOf i).toNat)
        case atStart => exact ⟨0, by decide, rfl, by rw [sched_part0 _ _ _ (by omega)]; exact HR.out, HB.out⟩
        case round =>
          obtain ⟨j, hj, rfl, hR2, hb2⟩ := hrel
          have HR2 := Lib.hid hR2
          have HB2 := Lib.hid hb2
          clear hR2 hb2
          by_cases hjn : j < 8
          · go_wp2_with fail
            have hc := fun (t : Rg.Later wr.heap.size wr) => (t.cell (w.heap.size + 1 + 1) k HR2.out.lt).trans (HR2.out.cell k (by rw [List.length_set, h80.out]; omega))
            rw [set_getD _ _ _ (by rw [h80.out]; omega)] at hc
            have hf := fun t : Rg.Later wr.heap.size wr => (t.frozen (w.heap.size + 1 + 1) k HR2.out.lt).trans (HR2.out.frozen k)
            have hi0 : 0 ≤ (k : Int) * 8 + j := by omega
            have hi1 : (k : Int) * 8 + j < 128 := by omega
            refine Rg.wp_region_later wr.heap.size 15 (by kernel_rfl) (by kernel_rfl) ?_
            simp only [List.take_succ_cons, List.take_zero, List.drop_succ_cons, List.drop_zero]
            repeat (go_big_quiet_step (fail))
            refine wpQuiet_nil ?_
            rintro _ ⟨t, rfl⟩
            go_wp2
            go_roundw
            case rel =>
              refine ⟨j + 1, by omega, by go_num, ?_, (HB2.out.trans (t.is.mono (by have := HR2.out.lt; omega))).setCell (Nat.le_refl _) _⟩
              have hb : k * (64 / 8) + j < s.data.toList.length := by rw [hlen]; omega
              have hv := shl_or 64 s.data.toList k j s[k * 8 + j] (by omega) hb rfl
              rw [hv]
              have := (HR2.out.below t.is HR2.out.lt).store k (part 64 s.data.toList k (j + 1))
              rwa [List.set_set] at this
            case measure => simp [intOf]; omega
          · obtain rfl : j = 8 := by omega
            go_wp2_with fail
            go_roundw
            case rel => exact ⟨k + 1, by omega, by go_num, by rw [← sched_word _ _ _ (by omega) h16]; exact HR2.out, HB2.out⟩
            case measure => simp [intOf]; omega
      · have hsl := sched_lt 64 (by decide) s.data.toList k
        have hg := fun i => getD_lt hsl (Nat.two_pow_pos 64) i
        have Hg := Lib.hid (show ∀ i, nth (sched 64 s.data.toList k) i < 18446744073709551616 from hg)
        clear hsl hg
        go_wp2_with fail
        have hlw : w.heap.size + 1 + 1 < wr.heap.size := HR.out.lt
        have HL : Hid (w.heap.size < wr.heap.size) := Lib.hid (by omega)
        have c2 := HK'.out.cellL HL.out 2 (v := .int .i64 1) rfl
        have c3 := HK'.out.cellL HL.out 3 (v := .int .i64 8) rfl
        have c4 := HK'.out.cellL HL.out 4 (v := .int .i64 7) rfl
        have c5 := HK'.out.cellL HL.out 5 (v := .int .i64 19) rfl
        have c6 := HK'.out.cellL HL.out 6 (v := .int .i64 61) rfl
        have c7 := HK'.out.cellL HL.out 7 (v := .int .i64 6) rfl
        have hF : ∀ i, i < k → ∀ t : Rg.Later wr.heap.size wr, t.val.cell? ⟨w.heap.size + 1 + 1, i, none⟩ = some (.int .u64 (nth (sched 64 s.data.toList k) i : Nat)) := fun i hi t => by
          rw [← pad_get _ _ _ _ hi]
          exact (t.cell (w.heap.size + 1 + 1) i HR.out.lt).trans (HR.out.cell i (by rw [h80.out]; omega))
        have f2 := hF (k - 2) (by omega)
        have f7 := hF (k - 7) (by omega)
        have f15 := hF (k - 15) (by omega)
        have f16 := hF (k - 16) (by omega)
        clear hF
        have i2 : (2 : Int) ≤ k ∧ (k : Int) - 2 < 80 := by omega
        have i7 : (7 : Int) ≤ k ∧ (k : Int) - 7 < 80 := by omega
        have i15 : (15 : Int) ≤ k ∧ (k : Int) - 15 < 80 := by omega
        have i16 : (16 : Int) ≤ k ∧ (k : Int) - 16 < 80 := by omega
        have h16' : 16 ≤ k := by omega
        have ik : (k : Int) < 80 := by omega
        have hf := fun t : Rg.Later wr.heap.size wr => (t.frozen (w.heap.size + 1 + 1) k HR.out.lt).trans (HR.out.frozen k)
        have hck := fun t : Rg.Later wr.heap.size wr => (t.cell (w.heap.size + 1 + 1) k HR.out.lt).trans (HR.out.cell k (by rw [h80.out]; omega))
        refine Rg.wp_region_later wr.heap.size 31 (by kernel_rfl) (by kernel_rfl) ?_
        simp only [List.take_succ_cons, List.take_zero, List.drop_succ_cons, List.drop_zero]
        repeat (first | (go_big_quiet_want; refine Rg.quiet_load_row 102 _ rfl _ rfl _ _ _ (HK'.out.later HL.out) Tryz.underlying102 rfl rfl ?_; simp only [Act.put, List.setIfInBounds_toArray, List.set_cons_succ, List.set_cons_zero]; go_big_quiet_on) | go_big_quiet_step (first | (go_at_call 97; exact Rg.later_of (Nat.le_refl _) (small512_any _ _ _ _ _ (Hg.out _) (by decide) (by decide) (by decide) (by decide) (by decide) (by decide))) | (go_at_call 88; exact Rg.later_of (Nat.le_refl _) (cut512_any _ _ (Nat.mod_lt _ (by decide))))))
        refine wpQuiet_nil ?_
        rintro _ ⟨t, rfl⟩
        go_wp2
        go_roundw
        case rel =>
          refine ⟨k + 1, by omega, by go_num, ?_, (HB.out.trans (t.is.mono (by omega))).setCell (Nat.le_refl _) _⟩
          have hv := sched_next 64 s.data.toList k (by omega) h16 _ rfl
          rw [← hv]
          refine (HR.out.below t.is HR.out.lt).storeI k _ ?_
          simp only [sg0, sg1, Nat.reduceEqDiff, if_false]
          omega
        case measure => simp [intOf]; omega
    · obtain rfl : k = 80 := by omega
      have h80 := pad80_length (sched 64 s.data.toList 80) (by rw [sched_length]; omega)
      have hsz : (Cl.u64s (pad80 (sched 64 s.data.toList 80))).size = 80 := by simp [Cl.u64s, h80]
      have HS := Lib.hid hsz
      have HT' := Lib.hid (HT.out.below HB.out (by omega))
      have HHB := Lib.hid HB.out
      clear hsz h80
      go_wp2_with (first
        | (refine wpList_load_row rfl 163 _ rfl _ rfl _ _ _ _ HR.out Tryz.underlying163 rfl (by rw [HS.out]; rfl) ?_)
        | (refine wpList_store_row rfl 163 _ _ rfl _ _ rfl rfl _ _ HT'.out (by rw [HS.out]; rfl) (by rw [HS.out]; rfl) (Cl.u64s_one _) ?_))
      have hb1 : Below w.heap.size w wr := hBW.out.trans (HHB.out.mono (by omega))
      exact bodyPost_ret (v := .agg (Cl.u64s (pad80 (sched 64 s.data.toList 80))))
        (results_cell_row Tryz.results86 _ _ (w.heap.size + 1) 163 _ (0, 0) _ rfl (setRow_heap _ _ _ _ _ _ HT'.out) Tryz.underlying163 rfl (by rw [HS.out]; rfl)) rfl
        ⟨rfl, Rg.below_setRow hb1 (by omega) _⟩
end Go.Proofs.YtfaeigbfnjkojaaGreatDoor.Sha
namespace Go.Proofs.YtfaeigbfnjkojaaGreatDoor.Sha
open Go.RowKit Go.Proofs.YtfaeigbfnjkojaaGreatDoor.Cl
theorem one_cells (l : List Nat) : ∀ v ∈ l.map fun (x : Nat) => Value.int .u64 (x : Int), v.oneCell' = true := by
  intro v hv
  obtain ⟨x, _, rfl⟩ := List.mem_map.1 hv
  rfl
theorem blk_grown {w w' : World} {b g T : Nat} {cs : Array Value} (h : Rg.Blk w b T cs) (hg : w.grownBy w' (some g)) (hn : b ≠ g) : Rg.Blk w' b T cs := by
  unfold Rg.Blk at *
  rw [hg.block b (Array.getElem?_eq_some_iff.1 h).1 (fun e => hn (Option.some.inj e))]; exact h
theorem grown_of_below {w w' : World} (h : Below w.heap.size w w') (r : Option Nat) : w.grownBy w' r := ⟨h.os, h.tape, h.output, h.size, fun k hk _ => h.block k hk⟩
theorem grown_trans {a b c : World} {r : Option Nat} (h : a.grownBy b r) (h' : b.grownBy c r) : a.grownBy c r :=
  ⟨h'.os.trans h.os, h'.tape.trans h.tape, h'.output.trans h.output, Nat.le_trans h.size h'.size, fun k hk hr => (h'.block k (Nat.lt_of_lt_of_le hk h.size) hr).trans (h.block k hk hr)⟩
/-- the first j words mixed in -/
def mixPart (W : Nat) (h x : List Nat) (j : Nat) : List Nat := (List.range 8).map fun i => if i < j then (nth h i + nth x i) % 2 ^ W else nth h i
theorem mixPart_length (W : Nat) (h x : List Nat) (j : Nat) : (mixPart W h x j).length = 8 := by simp [mixPart]
theorem mixed_part (W : Nat) (blk : List UInt8) (h : List Nat) : mixed W blk h = mixPart W h (mixAll W blk h) 8 := by
  unfold mixed mixPart
  exact List.map_congr_left fun i hi => (if_pos (List.mem_range.1 hi)).symm
theorem mixPart_zero (W : Nat) (h x : List Nat) (hl : h.length = 8) : mixPart W h x 0 = h := by
  match h, hl with
  | [a, b, c, d, e, f, g, i], _ => rfl
theorem mixPart_set (W : Nat) (h x : List Nat) (j v : Nat) (hj : j < 8) (hv : v = (nth h j + nth x j) % 2 ^ W) : (mixPart W h x j).set j v = mixPart W h x (j + 1) := by
  apply List.ext_getElem
  · simp [mixPart]
  · intro i h1 h2
    rw [List.getElem_set]
    simp only [mixPart, List.getElem_map, List.getElem_range]
    by_cases hij : j = i
    · subst hij; simp [hv]
    · have : i < j + 1 ↔ i < j := by omega
      simp [hij, this]
theorem mixPart_at (W : Nat) (h x : List Nat) (j : Nat) (hj : j < 8) : nth (mixPart W h x j) j = nth h j := by
  simp [nth, mixPart, hj]
theorem mod_add64 (a b : Nat) : add64 a b % 4294967296 = (a + b) % 4294967296 := by unfold add64; omega
theorem mixPart_succ32 (h x : List Nat) (j : Nat) (hj : j < 8) : (mixPart 32 h x j).set j (add64 (nth (mixPart 32 h x j) j) (nth x j) % 4294967296) = mixPart 32 h x (j + 1) :=
  mixPart_set 32 h x j _ hj (by rw [mixPart_at _ _ _ _ hj, mod_add64])
theorem mixPart_succ64 (h x : List Nat) (j : Nat) (hj : j < 8) : (mixPart 64 h x j).set j (add64 (nth (mixPart 64 h x j) j) (nth x j)) = mixPart 64 h x (j + 1) :=
  mixPart_set 64 h x j _ hj (by rw [mixPart_at _ _ _ _ hj]; rfl)
/-- a shift by one place -/
def sh (xs : List Nat) : List Nat := [nth xs 0, nth xs 0, nth xs 1, nth xs 2, nth xs 3, nth xs 4, nth xs 5, nth xs 6]
theorem list8 {xs : List Nat} (h : xs.length = 8) : xs = [nth xs 0, nth xs 1, nth xs 2, nth xs 3, nth xs 4, nth xs 5, nth xs 6, nth xs 7] := by
  match xs, h with
  | [a, b, c, d, e, f, g, i], _ => rfl
theorem sh_length (xs : List Nat) (_ : xs.length = 8) : (sh xs).length = 8 := rfl
theorem splice_sh (xs : List Nat) (h : xs.length = 8) : (splice (xs.map fun (x : Nat) => Value.int .u64 (x : Int)) 1 ((xs.take 7).map fun (x : Nat) => Value.int .u64 (x : Int))).toArray = u64s (sh xs) := by
  match xs, h with
  | [a, b, c, d, e, f, g, i], _ => rfl
theorem copy_src {w : World} {b T : Nat} {xs : List Nat} (h : Row w b T xs) (hl : xs.length = 8) : ∀ j v, ((xs.take 7).map fun (x : Nat) => Value.int .u64 (x : Int))[j]? = some v → w.cell? ((⟨b, 0, none⟩ : Addr).add j) = some v := by
  intro j v hv
  have hadd : (⟨b, 0, none⟩ : Addr).add j = ⟨b, j, none⟩ := by unfold Addr.add; split <;> simp_all
  have hj : j < 7 := by
    have := (List.getElem?_eq_some_iff.1 hv).1
    simp [hl] at this; omega
  rw [hadd, h.cell j (by omega), ← hv]
  simp [List.getElem?_take, hj, nth, List.getElem?_eq_getElem (show j < xs.length by omega)]
theorem round32 (xs : List Nat) (k wt : Nat) : ((sh xs).set 4 (add64 (nth (sh xs) 4) (add64 (add64 (add64 (add64 (nth xs 7) (three 32 (nth xs 4) 6 11 25)) (ch (nth xs 4) (nth xs 5) (nth xs 6))) (hi32 (nth wordsL k))) wt) % 4294967296)).set 0
    (add64 (add64 (add64 (add64 (add64 (nth xs 7) (three 32 (nth xs 4) 6 11 25)) (ch (nth xs 4) (nth xs 5) (nth xs 6))) (hi32 (nth wordsL k))) wt) (add64 (three 32 (nth xs 0) 2 13 22) (mj (nth xs 0) (nth xs 1) (nth xs 2))) % 4294967296) = mixRound 32 xs (kw 32 k) wt := by
  rw [mod_add64, mod_add64]
  rfl
theorem round64 (xs : List Nat) (k wt : Nat) : ((sh xs).set 4 (add64 (nth (sh xs) 4) (add64 (add64 (add64 (add64 (nth xs 7) (three 64 (nth xs 4) 14 18 41)) (ch (nth xs 4) (nth xs 5) (nth xs 6))) (nth wordsL k)) wt))).set 0
    (add64 (add64 (add64 (add64 (add64 (nth xs 7) (three 64 (nth xs 4) 14 18 41)) (ch (nth xs 4) (nth xs 5) (nth xs 6))) (nth wordsL k)) wt) (add64 (three 64 (nth xs 0) 28 34 39) (mj (nth xs 0) (nth xs 1) (nth xs 2)))) = mixRound 64 xs (kw 64 k) wt := by
  rfl
attribute [local go_sem] wrap_add64


set_option maxRecDepth 20000 in
set_option maxHeartbeats 2000000 in
theorem mix256 (w : World) (hb : Nat) (hh : List Nat) (s : ByteArray) (hs : s.size = 64) (hT : Tables w) (hb2 : 2 ≤ hb) (hR : Row w hb 138 hh) (hl : hh.length = 8) (hlt : ∀ i, nth hh i < 4294967296) :
    Calls Tryz.prog 72 #[K256, .pointer (some ⟨hb, 0, none⟩), .string s] w fun e w' => e = .returned (.tuple #[]) ∧ Row w' hb 138 (mixed 32 s.data.toList hh) ∧ w.grownBy w' (some hb) := by
  have HR := Lib.hid hR
  have HT := Lib.hid hT
  have HLT := Lib.hid hlt
  have hS8 := Lib.hid (show (u64s hh).size = 8 by simp [u64s, hl])
  have hbl := hR.lt
  have HS80 := Lib.hid (show (Cl.u64s (msg 32 s.data.toList)).size = 80 by simp [Cl.u64s, msg_length])
  clear hR hT hlt hl
  unfold K256
  go_enter Tryz.func72, Tryz.ntmps72
  go_wp2_with (first
    | (refine Rg.box_fresh rfl 102 _ rfl _ rfl ?_; intro V hK hbV hnV; have HK := Lib.hid hK; have HBV := Lib.hid hbV; have HNV := Lib.hid hnV; clear hK hbV hnV)
    | (refine wpList_load_row rfl 102 _ rfl w.heap.size rfl _ _ _ _ HK.out Tryz.underlying102 rfl (by kernel_rfl) ?_)
    | (go_at_call 86; refine (sched256 _ _ hs).mono ?_; rintro e w1 ⟨rfl, hb1⟩; skip; have HB1 := Lib.hid hb1; clear hb1; have tok := True.intro)
    | (have _t := tok; refine Rg.store_fresh rfl 163 _ _ rfl _ _ _ rfl rfl (by rw [HS80.out]; rfl) (by rw [HS80.out]; rfl) (u64s_one _) ?_; intro X hM hbX; clear tok _t
       have HM := Lib.hid hM; have HBX := Lib.hid hbX; clear hM hbX; have tok2 := True.intro)
    | (have _t := tok2; refine wpList_load_row rfl 138 _ rfl hb rfl _ _ _ _ (((HR.out.below HBV.out hbl).below HB1.out (by rw [HNV.out]; omega)).below HBX.out (by have := HB1.out.size; rw [HNV.out] at this; omega)) Tryz.underlying138 rfl (by rw [hS8.out]; rfl) ?_; skip; clear _t tok2; have tok3 := True.intro)
    | (have _t := tok3; refine Rg.store_fresh rfl 138 _ _ rfl _ _ _ rfl rfl (by rw [hS8.out]; rfl) (by rw [hS8.out]; rfl) (u64s_one _) ?_; intro Y hX hbY; clear tok3 _t; have HX := Lib.hid hX
       have hVw : w.heap.size + 1 ≤ w1.heap.size := by have := HB1.out.size; rw [HNV.out] at this; exact this
       have hwX : w1.heap.size ≤ X.heap.size := HBX.out.size
       have HKY := Lib.hid (((HK.out.below HB1.out HK.out.lt).below HBX.out (by omega)).below hbY (by omega))
       have HMY := Lib.hid (HM.out.below hbY HM.out.lt)
       have HBW := Lib.hid (show Below w.heap.size w Y from ((HBV.out.trans (HB1.out.mono (by rw [HNV.out]; omega))).trans (HBX.out.mono (by omega))).trans (hbY.mono (by omega)))
       have k1 := HKY.out.cell 1 (v := .int .i64 64) rfl
       have hXY : X.heap.size < Y.heap.size := HX.out.lt
       have hMX : w1.heap.size < X.heap.size := HM.out.lt
       clear hX hbY))
  go_loopw [20] (fun i wr => ∃ k : Nat, k ≤ 64 ∧ i = .int .i64 k ∧ Row wr X.heap.size 138 (mixTo 32 (msg 32 s.data.toList) hh k) ∧ Below X.heap.size Y wr) (fun i _ => 64 - (intOf i).toNat)
  case atStart => exact ⟨0, by decide, rfl, HX.out, Below.refl _ _⟩
  case round =>
    obtain ⟨k, hk, rfl, hR, hb⟩ := hrel
    have HRr := Lib.hid hR
    have HBr := Lib.hid hb
    have hwr : X.heap.size < wr.heap.size := hR.lt
    have HKr := Lib.hid (HKY.out.below hb (by omega))
    have HMr := Lib.hid (show Row wr w1.heap.size 163 (msg 32 s.data.toList) from HMY.out.below hb hMX)
    have HTr := Lib.hid ((HT.out.below HBW.out HT.out.size).below hb (by have := HT.out.size; omega))
    clear hR hb k1
    by_cases hlt : k < 64
    · go_wp2_with fail
      have hg := mixTo_lt 32 (msg 32 s.data.toList) hh HLT.out k
      have hgl := mixTo_length 32 (msg 32 s.data.toList) hh (by have := hS8.out; simpa [u64s] using this) k
      have HE := Lib.hid (show mixTo 32 (msg 32 s.data.toList) hh (k + 1) = mixRound 32 (mixTo 32 (msg 32 s.data.toList) hh k) (kw 32 k) (nth (msg 32 s.data.toList) k) from rfl)
      generalize mixTo 32 (msg 32 s.data.toList) hh k = xs at *
      have hKl : w.heap.size < wr.heap.size := by omega
      have hMl : w1.heap.size < wr.heap.size := by omega
      have hTl : 23 ≤ wr.heap.size := HTr.out.size
      have Hg := Lib.hid hg
      have Hl := Lib.hid hgl
      clear hg hgl
      have x0 := fun s : Rg.Later wr.heap.size wr => (s.cell X.heap.size 0 hwr).trans (HRr.out.cell 0 (by rw [Hl.out]; decide))
      have x1 := fun s : Rg.Later wr.heap.size wr => (s.cell X.heap.size 1 hwr).trans (HRr.out.cell 1 (by rw [Hl.out]; decide))
      have x2 := fun s : Rg.Later wr.heap.size wr => (s.cell X.heap.size 2 hwr).trans (HRr.out.cell 2 (by rw [Hl.out]; decide))
      have x3 := fun s : Rg.Later wr.heap.size wr => (s.cell X.heap.size 3 hwr).trans (HRr.out.cell 3 (by rw [Hl.out]; decide))
      have x4 := fun s : Rg.Later wr.heap.size wr => (s.cell X.heap.size 4 hwr).trans (HRr.out.cell 4 (by rw [Hl.out]; decide))
      have x5 := fun s : Rg.Later wr.heap.size wr => (s.cell X.heap.size 5 hwr).trans (HRr.out.cell 5 (by rw [Hl.out]; decide))
      have x6 := fun s : Rg.Later wr.heap.size wr => (s.cell X.heap.size 6 hwr).trans (HRr.out.cell 6 (by rw [Hl.out]; decide))
      have x7 := fun s : Rg.Later wr.heap.size wr => (s.cell X.heap.size 7 hwr).trans (HRr.out.cell 7 (by rw [Hl.out]; decide))
      have c8 := HKr.out.cellL hKl 8 (v := .int .i64 2) rfl
      have c9 := HKr.out.cellL hKl 9 (v := .int .i64 13) rfl
      have c10 := HKr.out.cellL hKl 10 (v := .int .i64 22) rfl
      have c11 := HKr.out.cellL hKl 11 (v := .int .i64 6) rfl
      have c12 := HKr.out.cellL hKl 12 (v := .int .i64 11) rfl
      have c13 := HKr.out.cellL hKl 13 (v := .int .i64 25) rfl
      have m := fun s : Rg.Later wr.heap.size wr => (s.cell w1.heap.size k hMl).trans (HMr.out.cell k (by rw [msg_length]; omega))
      have tk := fun s : Rg.Later wr.heap.size wr => (s.cell 22 k (Nat.lt_of_lt_of_le (by decide) hTl)).trans (HTr.out.words k (by omega))
      have ik : (k : Int) < 80 := by omega
      have b0 : ∀ i, nth xs i < 18446744073709551616 := fun i => Nat.lt_of_lt_of_le (Hg.out i) (by decide)
      have e1 := ch_e1 (nth xs 4) (nth xs 5) (b0 4) (b0 5)
      have e2 := not_u64 (nth xs 4) (b0 4)
      have e3 := ch_e3 (nth xs 4) (nth xs 6) (b0 6)
      have e4 := ch_e4 (nth xs 4) (nth xs 5) (nth xs 6) (b0 4)
      have e5 := ch_e1 (nth xs 0) (nth xs 1) (b0 0) (b0 1)
      have e6 := ch_e1 (nth xs 0) (nth xs 2) (b0 0) (b0 2)
      have e7 := ch_e1 (nth xs 1) (nth xs 2) (b0 1) (b0 2)
      have e8 := mj_e1 (nth xs 0) (nth xs 1) (nth xs 2) (b0 0)
      have e9 := mj_e2 (nth xs 0) (nth xs 1) (nth xs 2) (b0 0) (b0 1)
      clear b0
      refine Rg.wp_region_later_all wr.heap.size (by kernel_rfl) (by kernel_rfl) ?_
      repeat (first | (go_big_quiet_want; refine Rg.quiet_load_row 102 _ rfl _ rfl _ _ _ (HKr.out.later hKl) Tryz.underlying102 rfl (by kernel_rfl) ?_; simp only [Act.put, List.setIfInBounds_toArray, List.set_cons_succ, List.set_cons_zero]; go_big_quiet_on) | go_big_quiet_step (first | (go_at_call 87; exact Rg.later_of (Nat.le_refl _) (large256_any _ _ _ _ _ (Hg.out _) (by decide) (by decide) (by decide) (by decide) (by decide) (by decide))) | (go_at_call 68; exact Rg.later_of (Nat.le_refl _) (word256_any _ _))))
      refine wpQuiet_nil ?_
      rintro _ ⟨s1, rfl⟩
      go_wp2_with fail
      refine Rg.wp_region_from_all (by kernel_rfl) (by kernel_rfl) ?_
      repeat (first | (go_big_quiet_want; refine Rg.quiet_load_row 102 _ rfl _ rfl _ _ _ (HKr.out.later hKl) Tryz.underlying102 rfl (by kernel_rfl) ?_; simp only [Act.put, List.setIfInBounds_toArray, List.set_cons_succ, List.set_cons_zero]; go_big_quiet_on) | go_big_quiet_step ((go_at_call 87; exact Rg.later_of (Nat.le_refl _) (large256_any _ _ _ _ _ (Hg.out _) (by decide) (by decide) (by decide) (by decide) (by decide) (by decide)))))
      refine wpQuiet_nil ?_
      rintro _ ⟨s2, rfl⟩
      go_wp2_with fail
      refine Rg.wp_region_from 2 (by kernel_rfl) (by kernel_rfl) ?_
      simp only [List.take_succ_cons, List.take_zero, List.drop_succ_cons, List.drop_zero]
      repeat (go_big_quiet_step (fail))
      refine wpQuiet_nil ?_
      rintro _ ⟨s3, rfl⟩
      have HR3 := Lib.hid (HRr.out.below s3.is hwr)
      have HB3 := Lib.hid (HBr.out.trans (s3.is.mono (by omega)))
      clear x0 x1 x2 x3 x4 x5 x6 x7 c8 c9 c10 c11 c12 c13 m tk e1 e2 e3 e4 e5 e6 e7 e8 e9
      refine wpList_copy_splice rfl (.tmp 79) (.tmp 80) 144 144 rfl 50 Tryz.underlying144 (by kernel_rfl) (some ⟨X.heap.size, 1, none⟩) (some ⟨X.heap.size, 0, none⟩) 7 7 7 8 rfl rfl X.heap.size 1
        (xs.map fun (x : Nat) => Value.int .u64 (x : Int)) 138 HR3.out ((xs.take 7).map fun (x : Nat) => Value.int .u64 (x : Int)) (by simp [Hl.out]) (fun _ => ⟨rfl, _, rfl, copy_src HR3.out Hl.out⟩) (by simp [Hl.out]) (one_cells _) X.heap.size Y HB3.out (Nat.le_refl _) ?_
      intro w4 HR4 hb4
      rw [splice_sh xs Hl.out] at HR4
      have HB4 := Lib.hid hb4
      clear hb4
      have hw4 : X.heap.size < w4.heap.size := (show Row w4 X.heap.size 138 (sh xs) from HR4.out).lt
      have HK4 := Lib.hid (HKY.out.below HB4.out (by omega))
      have hsh : (sh xs).length = 8 := sh_length xs Hl.out
      have HSH := Lib.hid hsh
      clear hsh
      have x4 := (show Row w4 X.heap.size 138 (sh xs) from HR4.out).cell 4 (by rw [HSH.out]; decide)
      have tok5 := True.intro
      go_wp2_with (first
        | (have _t := tok5; refine wpList_load_row rfl 102 _ rfl w.heap.size rfl _ _ _ _ HK4.out Tryz.underlying102 rfl (by kernel_rfl) ?_; skip; clear _t)
        | (have _t := tok5; go_at_call 88; refine (cut256_any _ _).mono ?_; rintro e w5 ⟨rfl, hb5⟩; skip; clear tok5 _t x4; have tok6 := True.intro
           have HR5 := Lib.hid ((show Row w4 X.heap.size 138 (sh xs) from HR4.out).below hb5 hw4)
           have HK5 := Lib.hid (HK4.out.below hb5 (by omega))
           have hw5 : X.heap.size < w5.heap.size := HR5.out.lt
           have HB5 := Lib.hid (HB4.out.trans (hb5.mono (by omega))); clear hb5)
        | (have _t := tok6; refine store_cell rfl 50 _ _ rfl rfl rfl Tryz.underlying50 (by kernel_rfl) HR5.out (by rw [HSH.out]; decide) ?_; skip; clear tok6 _t; intro w6 hR6 hg6; have tok7 := True.intro
           have HR6 := Lib.hid hR6
           have HK6 := Lib.hid (blk_grown HK5.out hg6 (by omega))
           have HB6 := Lib.hid (HB5.out.grown hg6 (by omega) (fun k hk => by cases hk; exact Nat.le_refl _))
           clear hR6 hg6)
        | (have _t := tok7; refine wpList_load_row rfl 102 _ rfl w.heap.size rfl _ _ _ _ HK6.out Tryz.underlying102 rfl (by kernel_rfl) ?_; skip; clear _t)
        | (have _t := tok7; go_at_call 88; refine (cut256_any _ _).mono ?_; rintro e w7 ⟨rfl, hb7⟩; skip; clear tok7 _t; have tok8 := True.intro
           have hw6 : X.heap.size < w6.heap.size := HR6.out.lt
           have HR7 := Lib.hid (HR6.out.below hb7 hw6)
           have HB7 := Lib.hid (HB6.out.trans (hb7.mono (by omega))); clear hb7)
        | (have _t := tok8; refine store_cell rfl 50 _ _ rfl rfl rfl Tryz.underlying50 (by kernel_rfl) HR7.out (by rw [List.length_set, HSH.out]; decide) ?_; skip; clear tok8 _t; intro w8 hR8 hg8
           have HR8 := Lib.hid hR8
           have HB8 := Lib.hid (HB7.out.grown hg8 (by have := HR7.out.lt; omega) (fun k hk => by cases hk; exact Nat.le_refl _))
           clear hR8 hg8))
      go_roundw
      case rel =>
        refine ⟨k + 1, by omega, by go_num, ?_, HB8.out⟩
        rw [HE.out]
        exact (round32 xs k (nth (msg 32 s.data.toList) k)) ▸ HR8.out
      case measure => simp [intOf]; omega
    · obtain rfl : k = 64 := by omega
      have hxl : (mixTo 32 (msg 32 s.data.toList) hh 64).length = 8 := mixTo_length 32 _ _ (by have := hS8.out; simpa [u64s] using this) _
      have hxg := mixTo_lt 32 (msg 32 s.data.toList) hh HLT.out 64
      have HM2 := Lib.hid (show mixed 32 s.data.toList hh = mixPart 32 hh (mixTo 32 (msg 32 s.data.toList) hh 64) 8 by rw [mixed_part, mixAll32])
      have HRh := Lib.hid (show Row wr hb 138 (mixPart 32 hh (mixTo 32 (msg 32 s.data.toList) hh 64) 0) from by
        rw [mixPart_zero _ _ _ (by have := hS8.out; simpa [u64s] using this)]; exact (HR.out.below HBW.out hbl).below HBr.out (by omega))
      have HG0 := Lib.hid (show w.grownBy wr (some hb) from grown_of_below (HBW.out.trans (HBr.out.mono (by omega))) _)
      generalize mixTo 32 (msg 32 s.data.toList) hh 64 = xs at *
      have Hl := Lib.hid hxl
      have Hg := Lib.hid hxg
      clear hxl hxg
      obtain ⟨wo, rfl⟩ : ∃ wo : World, wo = wr := ⟨_, rfl⟩
      go_wp2_with fail
      go_loopw [96] (fun i wr => ∃ j : Nat, j ≤ 8 ∧ i = .int .i64 j ∧ Row wr hb 138 (mixPart 32 hh xs j) ∧ Row wr X.heap.size 138 xs ∧ Rg.Blk wr w.heap.size 102 k256c ∧ w.grownBy wr (some hb)) (fun i _ => 8 - (intOf i).toNat)
      case atStart => exact ⟨0, by decide, rfl, HRh.out, HRr.out, HKr.out, HG0.out⟩
      case round =>
        obtain ⟨j, hj, rfl, hR1, hR2, hK1, hG1⟩ := hrel
        have HH1 := Lib.hid hR1
        have HX1 := Lib.hid hR2
        have HK1 := Lib.hid hK1
        have HG1 := Lib.hid hG1
        clear hR1 hR2 hK1 hG1 HRh HG0
        by_cases hj8 : j < 8
        · go_wp2_with fail
          have hKl : w.heap.size < wr.heap.size := HK1.out.lt
          have hHl : hb < wr.heap.size := HH1.out.lt
          have hXl : X.heap.size < wr.heap.size := HX1.out.lt
          have f1 := fun s : Rg.Later wr.heap.size wr => (s.cell hb j hHl).trans (HH1.out.cell j (by rw [mixPart_length]; exact hj8))
          have f2 := fun s : Rg.Later wr.heap.size wr => (s.cell X.heap.size j hXl).trans (HX1.out.cell j (by rw [Hl.out]; exact hj8))
          have ij : (j : Int) < 8 := by omega
          refine Rg.wp_region_later wr.heap.size 15 (by kernel_rfl) (by kernel_rfl) ?_
          simp only [List.take_succ_cons, List.take_zero, List.drop_succ_cons, List.drop_zero]
          repeat (first | (go_big_quiet_want; refine Rg.quiet_load_row 102 _ rfl _ rfl _ _ _ (HK1.out.later hKl) Tryz.underlying102 rfl (by kernel_rfl) ?_; simp only [Act.put, List.setIfInBounds_toArray, List.set_cons_succ, List.set_cons_zero]; go_big_quiet_on) | go_big_quiet_step ((go_at_call 88; exact Rg.later_of (Nat.le_refl _) (cut256_any _ _))))
          refine wpQuiet_nil ?_
          rintro _ ⟨s9, rfl⟩
          clear f1 f2
          refine store_cell rfl 50 _ _ rfl rfl rfl Tryz.underlying50 (by kernel_rfl) (HH1.out.below s9.is hHl) (by rw [mixPart_length]; exact hj8) ?_
          intro w9 hR9 hg9
          have HR9 := Lib.hid hR9
          have HG9 := Lib.hid (grown_trans (grown_trans HG1.out (grown_of_below s9.is (some hb)) ) hg9)
          have HX9 := Lib.hid (show Row w9 X.heap.size 138 xs from blk_grown (HX1.out.below s9.is hXl) hg9 (by omega))
          have HK9 := Lib.hid (blk_grown (HK1.out.below s9.is hKl) hg9 (by omega))
          clear hR9 hg9
          go_wp2_with fail
          go_roundw
          case rel =>
            (repeat apply Exists.intro)
            exact ⟨⟨j + 1, by omega, by go_num, mixPart_succ32 hh xs j hj8 ▸ HR9.out, HX9.out, HK9.out, HG9.out⟩, rfl⟩
          case measure => simp [intOf]; omega
        · obtain rfl : j = 8 := by omega
          go_wp2_with fail
          exact bodyPost_end (v := .tuple #[]) (results_none Tryz.results72 _ _ _) rfl ⟨rfl, by rw [HM2.out]; exact HH1.out, HG1.out⟩

set_option maxRecDepth 20000 in
set_option maxHeartbeats 2000000 in
theorem mix512 (w : World) (hb : Nat) (hh : List Nat) (s : ByteArray) (hs : s.size = 128) (hT : Tables w) (hb2 : 2 ≤ hb) (hR : Row w hb 138 hh) (hl : hh.length = 8) (hlt : ∀ i, nth hh i < 18446744073709551616) :
    Calls Tryz.prog 72 #[K512, .pointer (some ⟨hb, 0, none⟩), .string s] w fun e w' => e = .returned (.tuple #[]) ∧ Row w' hb 138 (mixed 64 s.data.toList hh) ∧ w.grownBy w' (some hb) := by
  have HR := Lib.hid hR
  have HT := Lib.hid hT
  have HLT := Lib.hid hlt
  have hS8 := Lib.hid (show (u64s hh).size = 8 by simp [u64s, hl])
  have hbl := hR.lt
  have HS80 := Lib.hid (show (Cl.u64s (msg 64 s.data.toList)).size = 80 by simp [Cl.u64s, msg_length])
  clear hR hT hlt hl
  unfold K512
  go_enter Tryz.func72, Tryz.ntmps72
  go_wp2_with (first
    | (refine Rg.box_fresh rfl 102 _ rfl _ rfl ?_; intro V hK hbV hnV; have HK := Lib.hid hK; have HBV := Lib.hid hbV; have HNV := Lib.hid hnV; clear hK hbV hnV)
    | (refine wpList_load_row rfl 102 _ rfl w.heap.size rfl _ _ _ _ HK.out Tryz.underlying102 rfl (by kernel_rfl) ?_)
    | (go_at_call 86; refine (sched512 _ _ hs).mono ?_; rintro e w1 ⟨rfl, hb1⟩; skip; have HB1 := Lib.hid hb1; clear hb1; have tok := True.intro)
    | (have _t := tok; refine Rg.store_fresh rfl 163 _ _ rfl _ _ _ rfl rfl (by rw [HS80.out]; rfl) (by rw [HS80.out]; rfl) (u64s_one _) ?_; intro X hM hbX; clear tok _t
       have HM := Lib.hid hM; have HBX := Lib.hid hbX; clear hM hbX; have tok2 := True.intro)
    | (have _t := tok2; refine wpList_load_row rfl 138 _ rfl hb rfl _ _ _ _ (((HR.out.below HBV.out hbl).below HB1.out (by rw [HNV.out]; omega)).below HBX.out (by have := HB1.out.size; rw [HNV.out] at this; omega)) Tryz.underlying138 rfl (by rw [hS8.out]; rfl) ?_; skip; clear _t tok2; have tok3 := True.intro)
    | (have _t := tok3; refine Rg.store_fresh rfl 138 _ _ rfl _ _ _ rfl rfl (by rw [hS8.out]; rfl) (by rw [hS8.out]; rfl) (u64s_one _) ?_; intro Y hX hbY; clear tok3 _t; have HX := Lib.hid hX
       have hVw : w.heap.size + 1 ≤ w1.heap.size := by have := HB1.out.size; rw [HNV.out] at this; exact this
       have hwX : w1.heap.size ≤ X.heap.size := HBX.out.size
       have HKY := Lib.hid (((HK.out.below HB1.out HK.out.lt).below HBX.out (by omega)).below hbY (by omega))
       have HMY := Lib.hid (HM.out.below hbY HM.out.lt)
       have HBW := Lib.hid (show Below w.heap.size w Y from ((HBV.out.trans (HB1.out.mono (by rw [HNV.out]; omega))).trans (HBX.out.mono (by omega))).trans (hbY.mono (by omega)))
       have k1 := HKY.out.cell 1 (v := .int .i64 80) rfl
       have hXY : X.heap.size < Y.heap.size := HX.out.lt
       have hMX : w1.heap.size < X.heap.size := HM.out.lt
       clear hX hbY))
  go_loopw [20] (fun i wr => ∃ k : Nat, k ≤ 80 ∧ i = .int .i64 k ∧ Row wr X.heap.size 138 (mixTo 64 (msg 64 s.data.toList) hh k) ∧ Below X.heap.size Y wr) (fun i _ => 80 - (intOf i).toNat)
  case atStart => exact ⟨0, by decide, rfl, HX.out, Below.refl _ _⟩
  case round =>
    obtain ⟨k, hk, rfl, hR, hb⟩ := hrel
    have HRr := Lib.hid hR
    have HBr := Lib.hid hb
    have hwr : X.heap.size < wr.heap.size := hR.lt
    have HKr := Lib.hid (HKY.out.below hb (by omega))
    have HMr := Lib.hid (show Row wr w1.heap.size 163 (msg 64 s.data.toList) from HMY.out.below hb hMX)
    have HTr := Lib.hid ((HT.out.below HBW.out HT.out.size).below hb (by have := HT.out.size; omega))
    clear hR hb k1
    by_cases hlt : k < 80
    · go_wp2_with fail
      have hg := mixTo_lt 64 (msg 64 s.data.toList) hh HLT.out k
      have hgl := mixTo_length 64 (msg 64 s.data.toList) hh (by have := hS8.out; simpa [u64s] using this) k
      have HE := Lib.hid (show mixTo 64 (msg 64 s.data.toList) hh (k + 1) = mixRound 64 (mixTo 64 (msg 64 s.data.toList) hh k) (kw 64 k) (nth (msg 64 s.data.toList) k) from rfl)
      generalize mixTo 64 (msg 64 s.data.toList) hh k = xs at *
      have hKl : w.heap.size < wr.heap.size := by omega
      have hMl : w1.heap.size < wr.heap.size := by omega
      have hTl : 23 ≤ wr.heap.size := HTr.out.size
      have Hg := Lib.hid hg
      have Hl := Lib.hid hgl
      clear hg hgl
      have x0 := fun s : Rg.Later wr.heap.size wr => (s.cell X.heap.size 0 hwr).trans (HRr.out.cell 0 (by rw [Hl.out]; decide))
      have x1 := fun s : Rg.Later wr.heap.size wr => (s.cell X.heap.size 1 hwr).trans (HRr.out.cell 1 (by rw [Hl.out]; decide))
      have x2 := fun s : Rg.Later wr.heap.size wr => (s.cell X.heap.size 2 hwr).trans (HRr.out.cell 2 (by rw [Hl.out]; decide))
      have x3 := fun s : Rg.Later wr.heap.size wr => (s.cell X.heap.size 3 hwr).trans (HRr.out.cell 3 (by rw [Hl.out]; decide))
      have x4 := fun s : Rg.Later wr.heap.size wr => (s.cell X.heap.size 4 hwr).trans (HRr.out.cell 4 (by rw [Hl.out]; decide))
      have x5 := fun s : Rg.Later wr.heap.size wr => (s.cell X.heap.size 5 hwr).trans (HRr.out.cell 5 (by rw [Hl.out]; decide))
      have x6 := fun s : Rg.Later wr.heap.size wr => (s.cell X.heap.size 6 hwr).trans (HRr.out.cell 6 (by rw [Hl.out]; decide))
      have x7 := fun s : Rg.Later wr.heap.size wr => (s.cell X.heap.size 7 hwr).trans (HRr.out.cell 7 (by rw [Hl.out]; decide))
      have c8 := HKr.out.cellL hKl 8 (v := .int .i64 28) rfl
      have c9 := HKr.out.cellL hKl 9 (v := .int .i64 34) rfl
      have c10 := HKr.out.cellL hKl 10 (v := .int .i64 39) rfl
      have c11 := HKr.out.cellL hKl 11 (v := .int .i64 14) rfl
      have c12 := HKr.out.cellL hKl 12 (v := .int .i64 18) rfl
      have c13 := HKr.out.cellL hKl 13 (v := .int .i64 41) rfl
      have m := fun s : Rg.Later wr.heap.size wr => (s.cell w1.heap.size k hMl).trans (HMr.out.cell k (by rw [msg_length]; omega))
      have tk := fun s : Rg.Later wr.heap.size wr => (s.cell 22 k (Nat.lt_of_lt_of_le (by decide) hTl)).trans (HTr.out.words k (by omega))
      have ik : (k : Int) < 80 := by omega
      have b0 : ∀ i, nth xs i < 18446744073709551616 := fun i => Nat.lt_of_lt_of_le (Hg.out i) (by decide)
      have e1 := ch_e1 (nth xs 4) (nth xs 5) (b0 4) (b0 5)
      have e2 := not_u64 (nth xs 4) (b0 4)
      have e3 := ch_e3 (nth xs 4) (nth xs 6) (b0 6)
      have e4 := ch_e4 (nth xs 4) (nth xs 5) (nth xs 6) (b0 4)
      have e5 := ch_e1 (nth xs 0) (nth xs 1) (b0 0) (b0 1)
      have e6 := ch_e1 (nth xs 0) (nth xs 2) (b0 0) (b0 2)
      have e7 := ch_e1 (nth xs 1) (nth xs 2) (b0 1) (b0 2)
      have e8 := mj_e1 (nth xs 0) (nth xs 1) (nth xs 2) (b0 0)
      have e9 := mj_e2 (nth xs 0) (nth xs 1) (nth xs 2) (b0 0) (b0 1)
      clear b0
      refine Rg.wp_region_later_all wr.heap.size (by kernel_rfl) (by kernel_rfl) ?_
      repeat (first | (go_big_quiet_want; refine Rg.quiet_load_row 102 _ rfl _ rfl _ _ _ (HKr.out.later hKl) Tryz.underlying102 rfl (by kernel_rfl) ?_; simp only [Act.put, List.setIfInBounds_toArray, List.set_cons_succ, List.set_cons_zero]; go_big_quiet_on) | go_big_quiet_step (first | (go_at_call 87; exact Rg.later_of (Nat.le_refl _) (large512_any _ _ _ _ _ (Hg.out _) (by decide) (by decide) (by decide) (by decide) (by decide) (by decide))) | (go_at_call 68; exact Rg.later_of (Nat.le_refl _) (word512_any _ _))))
      refine wpQuiet_nil ?_
      rintro _ ⟨s1, rfl⟩
      go_wp2_with fail
      refine Rg.wp_region_from_all (by kernel_rfl) (by kernel_rfl) ?_
      repeat (first | (go_big_quiet_want; refine Rg.quiet_load_row 102 _ rfl _ rfl _ _ _ (HKr.out.later hKl) Tryz.underlying102 rfl (by kernel_rfl) ?_; simp only [Act.put, List.setIfInBounds_toArray, List.set_cons_succ, List.set_cons_zero]; go_big_quiet_on) | go_big_quiet_step ((go_at_call 87; exact Rg.later_of (Nat.le_refl _) (large512_any _ _ _ _ _ (Hg.out _) (by decide) (by decide) (by decide) (by decide) (by decide) (by decide)))))
      refine wpQuiet_nil ?_
      rintro _ ⟨s2, rfl⟩
      go_wp2_with fail
      refine Rg.wp_region_from 2 (by kernel_rfl) (by kernel_rfl) ?_
      simp only [List.take_succ_cons, List.take_zero, List.drop_succ_cons, List.drop_zero]
      repeat (go_big_quiet_step (fail))
      refine wpQuiet_nil ?_
      rintro _ ⟨s3, rfl⟩
      have HR3 := Lib.hid (HRr.out.below s3.is hwr)
      have HB3 := Lib.hid (HBr.out.trans (s3.is.mono (by omega)))
      clear x0 x1 x2 x3 x4 x5 x6 x7 c8 c9 c10 c11 c12 c13 m tk e1 e2 e3 e4 e5 e6 e7 e8 e9
      refine wpList_copy_splice rfl (.tmp 79) (.tmp 80) 144 144 rfl 50 Tryz.underlying144 (by kernel_rfl) (some ⟨X.heap.size, 1, none⟩) (some ⟨X.heap.size, 0, none⟩) 7 7 7 8 rfl rfl X.heap.size 1
        (xs.map fun (x : Nat) => Value.int .u64 (x : Int)) 138 HR3.out ((xs.take 7).map fun (x : Nat) => Value.int .u64 (x : Int)) (by simp [Hl.out]) (fun _ => ⟨rfl, _, rfl, copy_src HR3.out Hl.out⟩) (by simp [Hl.out]) (one_cells _) X.heap.size Y HB3.out (Nat.le_refl _) ?_
      intro w4 HR4 hb4
      rw [splice_sh xs Hl.out] at HR4
      have HB4 := Lib.hid hb4
      clear hb4
      have hw4 : X.heap.size < w4.heap.size := (show Row w4 X.heap.size 138 (sh xs) from HR4.out).lt
      have HK4 := Lib.hid (HKY.out.below HB4.out (by omega))
      have hsh : (sh xs).length = 8 := sh_length xs Hl.out
      have HSH := Lib.hid hsh
      clear hsh
      have x4 := (show Row w4 X.heap.size 138 (sh xs) from HR4.out).cell 4 (by rw [HSH.out]; decide)
      have tok5 := True.intro
      go_wp2_with (first
        | (have _t := tok5; refine wpList_load_row rfl 102 _ rfl w.heap.size rfl _ _ _ _ HK4.out Tryz.underlying102 rfl (by kernel_rfl) ?_; skip; clear _t)
        | (have _t := tok5; go_at_call 88; refine (cut512_any _ _ (add64_lt _ _)).mono ?_; rintro e w5 ⟨rfl, hb5⟩; skip; clear tok5 _t x4; have tok6 := True.intro
           have HR5 := Lib.hid ((show Row w4 X.heap.size 138 (sh xs) from HR4.out).below hb5 hw4)
           have HK5 := Lib.hid (HK4.out.below hb5 (by omega))
           have hw5 : X.heap.size < w5.heap.size := HR5.out.lt
           have HB5 := Lib.hid (HB4.out.trans (hb5.mono (by omega))); clear hb5)
        | (have _t := tok6; refine store_cell rfl 50 _ _ rfl rfl rfl Tryz.underlying50 (by kernel_rfl) HR5.out (by rw [HSH.out]; decide) ?_; skip; clear tok6 _t; intro w6 hR6 hg6; have tok7 := True.intro
           have HR6 := Lib.hid hR6
           have HK6 := Lib.hid (blk_grown HK5.out hg6 (by omega))
           have HB6 := Lib.hid (HB5.out.grown hg6 (by omega) (fun k hk => by cases hk; exact Nat.le_refl _))
           clear hR6 hg6)
        | (have _t := tok7; refine wpList_load_row rfl 102 _ rfl w.heap.size rfl _ _ _ _ HK6.out Tryz.underlying102 rfl (by kernel_rfl) ?_; skip; clear _t)
        | (have _t := tok7; go_at_call 88; refine (cut512_any _ _ (add64_lt _ _)).mono ?_; rintro e w7 ⟨rfl, hb7⟩; skip; clear tok7 _t; have tok8 := True.intro
           have hw6 : X.heap.size < w6.heap.size := HR6.out.lt
           have HR7 := Lib.hid (HR6.out.below hb7 hw6)
           have HB7 := Lib.hid (HB6.out.trans (hb7.mono (by omega))); clear hb7)
        | (have _t := tok8; refine store_cell rfl 50 _ _ rfl rfl rfl Tryz.underlying50 (by kernel_rfl) HR7.out (by rw [List.length_set, HSH.out]; decide) ?_; skip; clear tok8 _t; intro w8 hR8 hg8
           have HR8 := Lib.hid hR8
           have HB8 := Lib.hid (HB7.out.grown hg8 (by have := HR7.out.lt; omega) (fun k hk => by cases hk; exact Nat.le_refl _))
           clear hR8 hg8))
      go_roundw
      case rel =>
        refine ⟨k + 1, by omega, by go_num, ?_, HB8.out⟩
        rw [HE.out]
        exact (round64 xs k (nth (msg 64 s.data.toList) k)) ▸ HR8.out
      case measure => simp [intOf]; omega
    · obtain rfl : k = 80 := by omega
      have hxl : (mixTo 64 (msg 64 s.data.toList) hh 80).length = 8 := mixTo_length 64 _ _ (by have := hS8.out; simpa [u64s] using this) _
      have hxg := mixTo_lt 64 (msg 64 s.data.toList) hh HLT.out 80
      have HM2 := Lib.hid (show mixed 64 s.data.toList hh = mixPart 64 hh (mixTo 64 (msg 64 s.data.toList) hh 80) 8 by rw [mixed_part, mixAll64])
      have HRh := Lib.hid (show Row wr hb 138 (mixPart 64 hh (mixTo 64 (msg 64 s.data.toList) hh 80) 0) from by
        rw [mixPart_zero _ _ _ (by have := hS8.out; simpa [u64s] using this)]; exact (HR.out.below HBW.out hbl).below HBr.out (by omega))
      have HG0 := Lib.hid (show w.grownBy wr (some hb) from grown_of_below (HBW.out.trans (HBr.out.mono (by omega))) _)
      generalize mixTo 64 (msg 64 s.data.toList) hh 80 = xs at *
      have Hl := Lib.hid hxl
      have Hg := Lib.hid hxg
      clear hxl hxg
      obtain ⟨wo, rfl⟩ : ∃ wo : World, wo = wr := ⟨_, rfl⟩
      go_wp2_with fail
      go_loopw [96] (fun i wr => ∃ j : Nat, j ≤ 8 ∧ i = .int .i64 j ∧ Row wr hb 138 (mixPart 64 hh xs j) ∧ Row wr X.heap.size 138 xs ∧ Rg.Blk wr w.heap.size 102 k512c ∧ w.grownBy wr (some hb)) (fun i _ => 8 - (intOf i).toNat)
      case atStart => exact ⟨0, by decide, rfl, HRh.out, HRr.out, HKr.out, HG0.out⟩
      case round =>
        obtain ⟨j, hj, rfl, hR1, hR2, hK1, hG1⟩ := hrel
        have HH1 := Lib.hid hR1
        have HX1 := Lib.hid hR2
        have HK1 := Lib.hid hK1
        have HG1 := Lib.hid hG1
        clear hR1 hR2 hK1 hG1 HRh HG0
        by_cases hj8 : j < 8
        · go_wp2_with fail
          have hKl : w.heap.size < wr.heap.size := HK1.out.lt
          have hHl : hb < wr.heap.size := HH1.out.lt
          have hXl : X.heap.size < wr.heap.size := HX1.out.lt
          have f1 := fun s : Rg.Later wr.heap.size wr => (s.cell hb j hHl).trans (HH1.out.cell j (by rw [mixPart_length]; exact hj8))
          have f2 := fun s : Rg.Later wr.heap.size wr => (s.cell X.heap.size j hXl).trans (HX1.out.cell j (by rw [Hl.out]; exact hj8))
          have ij : (j : Int) < 8 := by omega
          refine Rg.wp_region_later wr.heap.size 15 (by kernel_rfl) (by kernel_rfl) ?_
          simp only [List.take_succ_cons, List.take_zero, List.drop_succ_cons, List.drop_zero]
          repeat (first | (go_big_quiet_want; refine Rg.quiet_load_row 102 _ rfl _ rfl _ _ _ (HK1.out.later hKl) Tryz.underlying102 rfl (by kernel_rfl) ?_; simp only [Act.put, List.setIfInBounds_toArray, List.set_cons_succ, List.set_cons_zero]; go_big_quiet_on) | go_big_quiet_step ((go_at_call 88; exact Rg.later_of (Nat.le_refl _) (cut512_any _ _ (add64_lt _ _)))))
          refine wpQuiet_nil ?_
          rintro _ ⟨s9, rfl⟩
          clear f1 f2
          refine store_cell rfl 50 _ _ rfl rfl rfl Tryz.underlying50 (by kernel_rfl) (HH1.out.below s9.is hHl) (by rw [mixPart_length]; exact hj8) ?_
          intro w9 hR9 hg9
          have HR9 := Lib.hid hR9
          have HG9 := Lib.hid (grown_trans (grown_trans HG1.out (grown_of_below s9.is (some hb)) ) hg9)
          have HX9 := Lib.hid (show Row w9 X.heap.size 138 xs from blk_grown (HX1.out.below s9.is hXl) hg9 (by omega))
          have HK9 := Lib.hid (blk_grown (HK1.out.below s9.is hKl) hg9 (by omega))
          clear hR9 hg9
          go_wp2_with fail
          go_roundw
          case rel =>
            (repeat apply Exists.intro)
            exact ⟨⟨j + 1, by omega, by go_num, mixPart_succ64 hh xs j hj8 ▸ HR9.out, HX9.out, HK9.out, HG9.out⟩, rfl⟩
          case measure => simp [intOf]; omega
        · obtain rfl : j = 8 := by omega
          go_wp2_with fail
          exact bodyPost_end (v := .tuple #[]) (results_none Tryz.results72 _ _ _) rfl ⟨rfl, by rw [HM2.out]; exact HH1.out, HG1.out⟩
end Go.Proofs.YtfaeigbfnjkojaaGreatDoor.Sha
