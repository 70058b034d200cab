/- The words of a block. -/
import Derived.Test.YtfaeigbfnjkojaaGreatDoorShaWord2
import Derived.Test.YtfaeigbfnjkojaaGreatDoorGenA
import Derived.Test.YtfaeigbfnjkojaaGreatDoorShaMath2
set_option linter.unusedVariables false
set_option linter.unusedSimpArgs false
namespace Go.Proofs.YtfaeigbfnjkojaaGreatDoor.Sha
open Go.RowKit Go.Proofs.YtfaeigbfnjkojaaGreatDoor.Cl

theorem zero80 : Tryz.zeroCells163 = Cl.u64s (pad80 []) := by
  rfl
theorem wrap_u64_add (a b : Nat) : IntKind.u64.wrap ((a : Int) + (b : Int)) = (((a + b) % 18446744073709551616 : Nat) : Int) := by
  rw [IntKind.wrap_u64]; omega
attribute [local go_sem] wrap_u64_add
theorem sched_word (W : Nat) (blk : List UInt8) (k : Nat) (h : k < 80) (h16 : k < 16) : (pad80 (sched W blk k)).set k (part W blk k (W / 8)) = pad80 (sched W blk (k + 1)) := by
  have hl := sched_length W blk k
  have e : sched W blk (k + 1) = sched W blk k ++ [part W blk k (W / 8)] := by simp [sched, h16, part]
  have := pad80_set (sched W blk k) (part W blk k (W / 8)) (by omega)
  rw [e, ← this, hl]
theorem sched_part0 (W : Nat) (blk : List UInt8) (k : Nat) (h : k < 80) : (pad80 (sched W blk k)).set k (part W blk k 0) = pad80 (sched W blk k) := by
  have hl := sched_length W blk k
  have h0 := pad80_at (sched W blk k) (by omega)
  have h8 := pad80_length (sched W blk k) (by omega)
  rw [hl] at h0
  have e : part W blk k 0 = (pad80 (sched W blk k))[k]'(by omega) := by
    rw [nth_getD, List.getD_eq_getElem?_getD, List.getElem?_eq_getElem (by omega)] at h0
    simpa [part, beN] using h0.symm
  rw [e, List.set_getElem_self]
theorem sched_next (W : Nat) (blk : List UInt8) (k : Nat) (h : k < 80) (h16 : ¬ k < 16) (v : Nat)
    (hv : v = (sg1 W (nth (sched W blk k) (k - 2)) + nth (sched W blk k) (k - 7) + sg0 W (nth (sched W blk k) (k - 15)) + nth (sched W blk k) (k - 16)) % 2 ^ W) :
    (pad80 (sched W blk k)).set k v = pad80 (sched W blk (k + 1)) := by
  have hl := sched_length W blk k
  have e : sched W blk (k + 1) = sched W blk k ++ [v] := by simp [sched, h16, hv]
  have := pad80_set (sched W blk k) v (by omega)
  rw [e, ← this, hl]
theorem pad_get (W : Nat) (blk : List UInt8) (k i : Nat) (hi : i < k) : nth (pad80 (sched W blk k)) i = nth (sched W blk k) i :=
  pad80_getD _ _ (by rw [sched_length]; exact hi)
theorem set_getD (l : List Nat) (k v : Nat) (h : k < l.length) : nth (l.set k v) k = v := by
  simp [nth, List.getD_eq_getElem?_getD, h]
theorem shl_or (W : Nat) (blk : List UInt8) (k j : Nat) (b : UInt8) (hj : j < 8) (hb : k * (W / 8) + j < blk.length) (hb' : blk[k * (W / 8) + j] = b) :
    bits .or .u64 (IntKind.u64.wrap ((part W blk k j : Int) * 256)) (IntKind.u64.wrap (b.toNat : Int)) = ((part W blk k (j + 1) : Nat) : Int) := by
  have hp := part_lt W blk k j
  have hm : 256 ^ j ≤ 256 ^ 7 := Nat.pow_le_pow_right (by decide) (by omega)
  have h7 : (256 : Nat) ^ 7 = 72057594037927936 := by decide
  have e : IntKind.u64.wrap ((part W blk k j : Int) * 256) = ((part W blk k j * 256 : Nat) : Int) := by rw [IntKind.wrap_u64]; omega
  have e2 : IntKind.u64.wrap (b.toNat : Int) = (b.toNat : Int) := by rw [IntKind.wrap_u64]; have := b.toNat_lt; omega
  rw [e, e2, u64_or_nat _ _ (by omega) (by have := b.toNat_lt; omega), or_byte, part_succ W blk k j hb, hb']

set_option maxRecDepth 20000 in
set_option maxHeartbeats 1000000 in
theorem sched256 (w : World) (s : ByteArray) (hs : s.size = 64) : Calls Tryz.prog 86 #[K256, .string s] w fun e w' => e = .returned (.agg (Cl.u64s (msg 32 s.data.toList))) ∧ Below w.heap.size w w' := by
  rw [msg32]
  have hlen : s.data.toList.length = 64 := by simpa using hs
  unfold K256
  have k0 : k256c[0]? = some (.int .i64 32) := rfl
  have k1 : k256c[1]? = some (.int .i64 64) := rfl
  go_enter Tryz.func86, Tryz.ntmps86
  go_wp2_with fail
  clear k0 k1
  generalize hW : World.alloc (World.alloc (World.alloc w _) _) _ = W
  have hn : W.heap.size = w.heap.size + 1 + 1 + 1 := by subst hW; simp
  have hBW := Lib.hid (show Below w.heap.size w W by subst hW; exact (((Below.refl _ _).alloc (Nat.le_refl _) _).alloc (by simp) _).alloc (by simp; omega) _)
  have HK := Lib.hid (show Rg.Blk W w.heap.size 102 k256c by subst hW; exact ((Rg.Blk.new _ _ _).alloc _).alloc _)
  have HT := Lib.hid (show Rg.Blk W (w.heap.size + 1) 163 Tryz.zeroCells163 by subst hW; refine Rg.Blk.alloc (Rg.Blk.newAt ?_ _ _) _; simp)
  have HR0 := Lib.hid (show Cl.Row W (w.heap.size + 1 + 1) 163 (pad80 (sched 32 s.data.toList 0)) by subst hW; refine Rg.Blk.newAt ?_ _ _; simp)
  have HN := Lib.hid hn
  clear hW hn
  go_loopw [14] (fun i wr => ∃ k : Nat, k ≤ 64 ∧ i = .int .i64 k ∧ Cl.Row wr (w.heap.size + 1 + 1) 163 (pad80 (sched 32 s.data.toList k)) ∧ Below (w.heap.size + 1 + 1) W wr) (fun i _ => 64 - (intOf i).toNat)
  case atStart => exact ⟨0, by decide, rfl, HR0.out, Below.refl _ _⟩
  case round =>
    obtain ⟨k, hk, rfl, hR, hb⟩ := hrel
    have HR := Lib.hid hR
    have HB := Lib.hid hb
    have HK' := Lib.hid (HK.out.below hb (by omega))
    clear hR HR0 hb
    by_cases hlt : k < 64
    · have h80 := Lib.hid (pad80_length (sched 32 s.data.toList k) (by rw [sched_length]; omega))
      by_cases h16 : k < 16
      · go_wp2_with fail
        obtain ⟨wo, rfl⟩ : ∃ wo : World, wo = wr := ⟨_, rfl⟩
        go_loopw [20] (fun i wr => ∃ j : Nat, j ≤ 4 ∧ i = .int .i64 j ∧ Cl.Row wr (w.heap.size + 1 + 1) 163 ((pad80 (sched 32 s.data.toList k)).set k (part 32 s.data.toList k j)) ∧ Below (w.heap.size + 1 + 1) W wr) (fun i _ => 4 - (intOf i).toNat)
        case atStart => exact ⟨0, by decide, rfl, by rw [sched_part0 _ _ _ (by omega)]; exact HR.out, HB.out⟩
        case round =>
          obtain ⟨j, hj, rfl, hR2, hb2⟩ := hrel
          have HR2 := Lib.hid hR2
          have HB2 := Lib.hid hb2
          clear hR2 hb2
          by_cases hjn : j < 4
          · go_wp2_with fail
            have hc := fun (t : Rg.Later wr.heap.size wr) => (t.cell (w.heap.size + 1 + 1) k HR2.out.lt).trans (HR2.out.cell k (by rw [List.length_set, h80.out]; omega))
            rw [set_getD _ _ _ (by rw [h80.out]; omega)] at hc
            have hf := fun t : Rg.Later wr.heap.size wr => (t.frozen (w.heap.size + 1 + 1) k HR2.out.lt).trans (HR2.out.frozen k)
            have hi0 : 0 ≤ (k : Int) * 4 + j := by omega
            have hi1 : (k : Int) * 4 + j < 64 := by omega
            refine Rg.wp_region_later wr.heap.size 15 (by kernel_rfl) (by kernel_rfl) ?_
            simp only [List.take_succ_cons, List.take_zero, List.drop_succ_cons, List.drop_zero]
            repeat (go_big_quiet_step (fail))
            refine wpQuiet_nil ?_
            rintro _ ⟨t, rfl⟩
            go_wp2
            go_roundw
            case rel =>
              refine ⟨j + 1, by omega, by go_num, ?_, (HB2.out.trans (t.is.mono (by have := HR2.out.lt; omega))).setCell (Nat.le_refl _) _⟩
              have hb : k * (32 / 8) + j < s.data.toList.length := by rw [hlen]; omega
              have hv := shl_or 32 s.data.toList k j s[k * 4 + j] (by omega) hb rfl
              rw [hv]
              have := (HR2.out.below t.is HR2.out.lt).store k (part 32 s.data.toList k (j + 1))
              rwa [List.set_set] at this
            case measure => simp [intOf]; omega
          · obtain rfl : j = 4 := by omega
            go_wp2_with fail
            go_roundw
            case rel => exact ⟨k + 1, by omega, by go_num, by rw [← sched_word _ _ _ (by omega) h16]; exact HR2.out, HB2.out⟩
            case measure => simp [intOf]; omega
      · have hsl := sched_lt 32 (by decide) s.data.toList k
        have hg := fun i => getD_lt hsl (Nat.two_pow_pos 32) i
        have Hg := Lib.hid (show ∀ i, nth (sched 32 s.data.toList k) i < 4294967296 from hg)
        clear hsl hg
        go_wp2_with fail
        have hlw : w.heap.size + 1 + 1 < wr.heap.size := HR.out.lt
        have HL : Hid (w.heap.size < wr.heap.size) := Lib.hid (by omega)
        have c2 := HK'.out.cellL HL.out 2 (v := .int .i64 7) rfl
        have c3 := HK'.out.cellL HL.out 3 (v := .int .i64 18) rfl
        have c4 := HK'.out.cellL HL.out 4 (v := .int .i64 3) rfl
        have c5 := HK'.out.cellL HL.out 5 (v := .int .i64 17) rfl
        have c6 := HK'.out.cellL HL.out 6 (v := .int .i64 19) rfl
        have c7 := HK'.out.cellL HL.out 7 (v := .int .i64 10) rfl
        have hF : ∀ i, i < k → ∀ t : Rg.Later wr.heap.size wr, t.val.cell? ⟨w.heap.size + 1 + 1, i, none⟩ = some (.int .u64 (nth (sched 32 s.data.toList k) i : Nat)) := fun i hi t => by
          rw [← pad_get _ _ _ _ hi]
          exact (t.cell (w.heap.size + 1 + 1) i HR.out.lt).trans (HR.out.cell i (by rw [h80.out]; omega))
        have f2 := hF (k - 2) (by omega)
        have f7 := hF (k - 7) (by omega)
        have f15 := hF (k - 15) (by omega)
        have f16 := hF (k - 16) (by omega)
        clear hF
        have i2 : (2 : Int) ≤ k ∧ (k : Int) - 2 < 80 := by omega
        have i7 : (7 : Int) ≤ k ∧ (k : Int) - 7 < 80 := by omega
        have i15 : (15 : Int) ≤ k ∧ (k : Int) - 15 < 80 := by omega
        have i16 : (16 : Int) ≤ k ∧ (k : Int) - 16 < 80 := by omega
        have h16' : 16 ≤ k := by omega
        have ik : (k : Int) < 80 := by omega
        have hf := fun t : Rg.Later wr.heap.size wr => (t.frozen (w.heap.size + 1 + 1) k HR.out.lt).trans (HR.out.frozen k)
        have hck := fun t : Rg.Later wr.heap.size wr => (t.cell (w.heap.size + 1 + 1) k HR.out.lt).trans (HR.out.cell k (by rw [h80.out]; omega))
        refine Rg.wp_region_later wr.heap.size 31 (by kernel_rfl) (by kernel_rfl) ?_
        simp only [List.take_succ_cons, List.take_zero, List.drop_succ_cons, List.drop_zero]
        repeat (first | (go_big_quiet_want; refine Rg.quiet_load_row 102 _ rfl _ rfl _ _ _ (HK'.out.later HL.out) Tryz.underlying102 rfl rfl ?_; simp only [Act.put, List.setIfInBounds_toArray, List.set_cons_succ, List.set_cons_zero]; go_big_quiet_on) | go_big_quiet_step (first | (go_at_call 97; exact Rg.later_of (Nat.le_refl _) (small256_any _ _ _ _ _ (Hg.out _) (by decide) (by decide) (by decide) (by decide) (by decide) (by decide))) | (go_at_call 88; exact Rg.later_of (Nat.le_refl _) (cut256_any _ _))))
        refine wpQuiet_nil ?_
        rintro _ ⟨t, rfl⟩
        go_wp2
        go_roundw
        case rel =>
          refine ⟨k + 1, by omega, by go_num, ?_, (HB.out.trans (t.is.mono (by omega))).setCell (Nat.le_refl _) _⟩
          have hv := sched_next 32 s.data.toList k (by omega) h16 _ rfl
          rw [← hv]
          refine (HR.out.below t.is HR.out.lt).storeI k _ ?_
          simp only [sg0, sg1, if_true]
          omega
        case measure => simp [intOf]; omega
    · obtain rfl : k = 64 := by omega
      have h80 := pad80_length (sched 32 s.data.toList 64) (by rw [sched_length]; omega)
      have hsz : (Cl.u64s (pad80 (sched 32 s.data.toList 64))).size = 80 := by simp [Cl.u64s, h80]
      have HS := Lib.hid hsz
      have HT' := Lib.hid (HT.out.below HB.out (by omega))
      have HHB := Lib.hid HB.out
      clear hsz h80
      go_wp2_with (first
        | (refine wpList_load_row rfl 163 _ rfl _ rfl _ _ _ _ HR.out Tryz.underlying163 rfl (by rw [HS.out]; rfl) ?_)
        | (refine wpList_store_row rfl 163 _ _ rfl _ _ rfl rfl _ _ HT'.out (by rw [HS.out]; rfl) (by rw [HS.out]; rfl) (Cl.u64s_one _) ?_))
      have hb1 : Below w.heap.size w wr := hBW.out.trans (HHB.out.mono (by omega))
      exact bodyPost_ret (v := .agg (Cl.u64s (pad80 (sched 32 s.data.toList 64))))
        (results_cell_row Tryz.results86 _ _ (w.heap.size + 1) 163 _ (0, 0) _ rfl (setRow_heap _ _ _ _ _ _ HT'.out) Tryz.underlying163 rfl (by rw [HS.out]; rfl)) rfl
        ⟨rfl, Rg.below_setRow hb1 (by omega) _⟩

set_option maxRecDepth 20000 in
set_option maxHeartbeats 1000000 in
theorem sched512 (w : World) (s : ByteArray) (hs : s.size = 128) : Calls Tryz.prog 86 #[K512, .string s] w fun e w' => e = .returned (.agg (Cl.u64s (msg 64 s.data.toList))) ∧ Below w.heap.size w w' := by
  rw [msg64]
  have hlen : s.data.toList.length = 128 := by simpa using hs
  unfold K512
  have k0 : k512c[0]? = some (.int .i64 64) := rfl
  have k1 : k512c[1]? = some (.int .i64 80) := rfl
  go_enter Tryz.func86, Tryz.ntmps86
  go_wp2_with fail
  clear k0 k1
  generalize hW : World.alloc (World.alloc (World.alloc w _) _) _ = W
  have hn : W.heap.size = w.heap.size + 1 + 1 + 1 := by subst hW; simp
  have hBW := Lib.hid (show Below w.heap.size w W by subst hW; exact (((Below.refl _ _).alloc (Nat.le_refl _) _).alloc (by simp) _).alloc (by simp; omega) _)
  have HK := Lib.hid (show Rg.Blk W w.heap.size 102 k512c by subst hW; exact ((Rg.Blk.new _ _ _).alloc _).alloc _)
  have HT := Lib.hid (show Rg.Blk W (w.heap.size + 1) 163 Tryz.zeroCells163 by subst hW; refine Rg.Blk.alloc (Rg.Blk.newAt ?_ _ _) _; simp)
  have HR0 := Lib.hid (show Cl.Row W (w.heap.size + 1 + 1) 163 (pad80 (sched 64 s.data.toList 0)) by subst hW; refine Rg.Blk.newAt ?_ _ _; simp)
  have HN := Lib.hid hn
  clear hW hn
  go_loopw [14] (fun i wr => ∃ k : Nat, k ≤ 80 ∧ i = .int .i64 k ∧ Cl.Row wr (w.heap.size + 1 + 1) 163 (pad80 (sched 64 s.data.toList k)) ∧ Below (w.heap.size + 1 + 1) W wr) (fun i _ => 80 - (intOf i).toNat)
  case atStart => exact ⟨0, by decide, rfl, HR0.out, Below.refl _ _⟩
  case round =>
    obtain ⟨k, hk, rfl, hR, hb⟩ := hrel
    have HR := Lib.hid hR
    have HB := Lib.hid hb
    have HK' := Lib.hid (HK.out.below hb (by omega))
    clear hR HR0 hb
    by_cases hlt : k < 80
    · have h80 := Lib.hid (pad80_length (sched 64 s.data.toList k) (by rw [sched_length]; omega))
      by_cases h16 : k < 16
      · go_wp2_with fail
        obtain ⟨wo, rfl⟩ : ∃ wo : World, wo = wr := ⟨_, rfl⟩
        go_loopw [20] (fun i wr => ∃ j : Nat, j ≤ 8 ∧ i = .int .i64 j ∧ Cl.Row wr (w.heap.size + 1 + 1) 163 ((pad80 (sched 64 s.data.toList k)).set k (part 64 s.data.toList k j)) ∧ Below (w.heap.size + 1 + 1) W wr) (fun i _ => 8 - (intOf i).toNat)
        case atStart => exact ⟨0, by decide, rfl, by rw [sched_part0 _ _ _ (by omega)]; exact HR.out, HB.out⟩
        case round =>
          obtain ⟨j, hj, rfl, hR2, hb2⟩ := hrel
          have HR2 := Lib.hid hR2
          have HB2 := Lib.hid hb2
          clear hR2 hb2
          by_cases hjn : j < 8
          · go_wp2_with fail
            have hc := fun (t : Rg.Later wr.heap.size wr) => (t.cell (w.heap.size + 1 + 1) k HR2.out.lt).trans (HR2.out.cell k (by rw [List.length_set, h80.out]; omega))
            rw [set_getD _ _ _ (by rw [h80.out]; omega)] at hc
            have hf := fun t : Rg.Later wr.heap.size wr => (t.frozen (w.heap.size + 1 + 1) k HR2.out.lt).trans (HR2.out.frozen k)
            have hi0 : 0 ≤ (k : Int) * 8 + j := by omega
            have hi1 : (k : Int) * 8 + j < 128 := by omega
            refine Rg.wp_region_later wr.heap.size 15 (by kernel_rfl) (by kernel_rfl) ?_
            simp only [List.take_succ_cons, List.take_zero, List.drop_succ_cons, List.drop_zero]
            repeat (go_big_quiet_step (fail))
            refine wpQuiet_nil ?_
            rintro _ ⟨t, rfl⟩
            go_wp2
            go_roundw
            case rel =>
              refine ⟨j + 1, by omega, by go_num, ?_, (HB2.out.trans (t.is.mono (by have := HR2.out.lt; omega))).setCell (Nat.le_refl _) _⟩
              have hb : k * (64 / 8) + j < s.data.toList.length := by rw [hlen]; omega
              have hv := shl_or 64 s.data.toList k j s[k * 8 + j] (by omega) hb rfl
              rw [hv]
              have := (HR2.out.below t.is HR2.out.lt).store k (part 64 s.data.toList k (j + 1))
              rwa [List.set_set] at this
            case measure => simp [intOf]; omega
          · obtain rfl : j = 8 := by omega
            go_wp2_with fail
            go_roundw
            case rel => exact ⟨k + 1, by omega, by go_num, by rw [← sched_word _ _ _ (by omega) h16]; exact HR2.out, HB2.out⟩
            case measure => simp [intOf]; omega
      · have hsl := sched_lt 64 (by decide) s.data.toList k
        have hg := fun i => getD_lt hsl (Nat.two_pow_pos 64) i
        have Hg := Lib.hid (show ∀ i, nth (sched 64 s.data.toList k) i < 18446744073709551616 from hg)
        clear hsl hg
        go_wp2_with fail
        have hlw : w.heap.size + 1 + 1 < wr.heap.size := HR.out.lt
        have HL : Hid (w.heap.size < wr.heap.size) := Lib.hid (by omega)
        have c2 := HK'.out.cellL HL.out 2 (v := .int .i64 1) rfl
        have c3 := HK'.out.cellL HL.out 3 (v := .int .i64 8) rfl
        have c4 := HK'.out.cellL HL.out 4 (v := .int .i64 7) rfl
        have c5 := HK'.out.cellL HL.out 5 (v := .int .i64 19) rfl
        have c6 := HK'.out.cellL HL.out 6 (v := .int .i64 61) rfl
        have c7 := HK'.out.cellL HL.out 7 (v := .int .i64 6) rfl
        have hF : ∀ i, i < k → ∀ t : Rg.Later wr.heap.size wr, t.val.cell? ⟨w.heap.size + 1 + 1, i, none⟩ = some (.int .u64 (nth (sched 64 s.data.toList k) i : Nat)) := fun i hi t => by
          rw [← pad_get _ _ _ _ hi]
          exact (t.cell (w.heap.size + 1 + 1) i HR.out.lt).trans (HR.out.cell i (by rw [h80.out]; omega))
        have f2 := hF (k - 2) (by omega)
        have f7 := hF (k - 7) (by omega)
        have f15 := hF (k - 15) (by omega)
        have f16 := hF (k - 16) (by omega)
        clear hF
        have i2 : (2 : Int) ≤ k ∧ (k : Int) - 2 < 80 := by omega
        have i7 : (7 : Int) ≤ k ∧ (k : Int) - 7 < 80 := by omega
        have i15 : (15 : Int) ≤ k ∧ (k : Int) - 15 < 80 := by omega
        have i16 : (16 : Int) ≤ k ∧ (k : Int) - 16 < 80 := by omega
        have h16' : 16 ≤ k := by omega
        have ik : (k : Int) < 80 := by omega
        have hf := fun t : Rg.Later wr.heap.size wr => (t.frozen (w.heap.size + 1 + 1) k HR.out.lt).trans (HR.out.frozen k)
        have hck := fun t : Rg.Later wr.heap.size wr => (t.cell (w.heap.size + 1 + 1) k HR.out.lt).trans (HR.out.cell k (by rw [h80.out]; omega))
        refine Rg.wp_region_later wr.heap.size 31 (by kernel_rfl) (by kernel_rfl) ?_
        simp only [List.take_succ_cons, List.take_zero, List.drop_succ_cons, List.drop_zero]
        repeat (first | (go_big_quiet_want; refine Rg.quiet_load_row 102 _ rfl _ rfl _ _ _ (HK'.out.later HL.out) Tryz.underlying102 rfl rfl ?_; simp only [Act.put, List.setIfInBounds_toArray, List.set_cons_succ, List.set_cons_zero]; go_big_quiet_on) | go_big_quiet_step (first | (go_at_call 97; exact Rg.later_of (Nat.le_refl _) (small512_any _ _ _ _ _ (Hg.out _) (by decide) (by decide) (by decide) (by decide) (by decide) (by decide))) | (go_at_call 88; exact Rg.later_of (Nat.le_refl _) (cut512_any _ _ (Nat.mod_lt _ (by decide))))))
        refine wpQuiet_nil ?_
        rintro _ ⟨t, rfl⟩
        go_wp2
        go_roundw
        case rel =>
          refine ⟨k + 1, by omega, by go_num, ?_, (HB.out.trans (t.is.mono (by omega))).setCell (Nat.le_refl _) _⟩
          have hv := sched_next 64 s.data.toList k (by omega) h16 _ rfl
          rw [← hv]
          refine (HR.out.below t.is HR.out.lt).storeI k _ ?_
          simp only [sg0, sg1, Nat.reduceEqDiff, if_false]
          omega
        case measure => simp [intOf]; omega
    · obtain rfl : k = 80 := by omega
      have h80 := pad80_length (sched 64 s.data.toList 80) (by rw [sched_length]; omega)
      have hsz : (Cl.u64s (pad80 (sched 64 s.data.toList 80))).size = 80 := by simp [Cl.u64s, h80]
      have HS := Lib.hid hsz
      have HT' := Lib.hid (HT.out.below HB.out (by omega))
      have HHB := Lib.hid HB.out
      clear hsz h80
      go_wp2_with (first
        | (refine wpList_load_row rfl 163 _ rfl _ rfl _ _ _ _ HR.out Tryz.underlying163 rfl (by rw [HS.out]; rfl) ?_)
        | (refine wpList_store_row rfl 163 _ _ rfl _ _ rfl rfl _ _ HT'.out (by rw [HS.out]; rfl) (by rw [HS.out]; rfl) (Cl.u64s_one _) ?_))
      have hb1 : Below w.heap.size w wr := hBW.out.trans (HHB.out.mono (by omega))
      exact bodyPost_ret (v := .agg (Cl.u64s (pad80 (sched 64 s.data.toList 80))))
        (results_cell_row Tryz.results86 _ _ (w.heap.size + 1) 163 _ (0, 0) _ rfl (setRow_heap _ _ _ _ _ _ HT'.out) Tryz.underlying163 rfl (by rw [HS.out]; rfl)) rfl
        ⟨rfl, Rg.below_setRow hb1 (by omega) _⟩
end Go.Proofs.YtfaeigbfnjkojaaGreatDoor.Sha
