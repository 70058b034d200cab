/- ShaB, RefA, RefBlock, RefBlock64, ShaC, RefS, RefSum64, RefT64, RfK, RfL, RfM, EdT, AuK, MsgA, StSl, StVal, BytesEq, MapA, StSt, AuP, AuQ, ErrA, Blob, ErrX, BlobK, AuW, AuX, PeA, PeB, PeC, PeD, PeE, EdX, RegE, PeF: what the claims need of them. -/
import Derived.Laws.CopyOwn
import Derived.Deep.QuietTactic
import Derived.BigQuiet
import Derived.Great.BuildSlice
import Derived.Lib.Hide
import Derived.Deep.RegionWith
import Derived.Test.YtciibogkfbicfaaGreatDoorRows
import Derived.Lib.Strings
import Derived.Lib.Slices
import Derived.Lib.Walk
import Derived.Lib.Builder
import Derived.Lib.AppendStr
import Derived.Lib.UnsafeStr
import Derived.Lib.MakeNoZero
import Derived.WalkKit
import Derived.Laws.Externs
import Derived.Laws.IdiomCopy
import Derived.Laws.BitsLemmas
import Derived.Test.YtciibogkfbicfaaGreatDoorChecked
import Derived.Maps.AppendAt
import Derived.Lib.SliceRun
import Derived.ChangeKeysEq
import Derived.Maps.OwnSet
import Derived.Maps.RangeWalk
import Derived.Sort.KeysCollected
import Derived.DeepKeys5
import Derived.Carry
import Derived.LaidEql
import Derived.Stop.Asserts
import Derived.RowKitTokens
import Derived.Below
import Derived.Deep.DeepCutAuto
import Derived.Test.YtciibogkfbicfaaGreatDoorAcB
open Go.Proofs.Tryz
set_option linter.unusedVariables false
set_option linter.unusedSimpArgs false
set_option maxRecDepth 20000
set_option maxHeartbeats 16000000
namespace Go.Proofs.YtciibogkfbicfaaGreatDoor
namespace Sha
open Go.RowKit Go.Proofs.YtciibogkfbicfaaGreatDoor.Cl
theorem wrap_u64_add (a b : Nat) : IntKind.u64.wrap ((a : Int) + (b : Int)) = (((a + b) % 18446744073709551616 : Nat) : Int) := by
 rw [IntKind.wrap_u64]; omega
attribute [local go_sem] wrap_u64_add
theorem sched_word (W : Nat) (blk : List UInt8) (k : Nat) (h : k < 80) (h16 : k < 16) : (pad80 (sched W blk k)).set k (part W blk k (W / 8)) = pad80 (sched W blk (k + 1)) := by
 have hl := jw_ W blk k
 have e : sched W blk (k + 1) = sched W blk k ++ [part W blk k (W / 8)] := by simp [sched, h16, part]
 have := pad80_set (sched W blk k) (part W blk k (W / 8)) (by omega)
 rw [e, ← this, hl]
theorem sched_part0 (W : Nat) (blk : List UInt8) (k : Nat) (h : k < 80) : (pad80 (sched W blk k)).set k (part W blk k 0) = pad80 (sched W blk k) := by
 have hl := jw_ W blk k
 have h0 := pad80_at (sched W blk k) (by omega)
 have h8 := pad80_length (sched W blk k) (by omega)
 rw [hl] at h0
 have e : part W blk k 0 = (pad80 (sched W blk k))[k]'(by omega) := by
  rw [nth_getD, List.getD_eq_getElem?_getD, List.getElem?_eq_getElem (by omega)] at h0
  simpa [part, beN] using h0.symm
 rw [e, List.set_getElem_self]
theorem sched_next (W : Nat) (blk : List UInt8) (k : Nat) (h : k < 80) (h16 : ¬ k < 16) (v : Nat)
 (hv : v = (sg1 W (nth (sched W blk k) (k - 2)) + nth (sched W blk k) (k - 7) + sg0 W (nth (sched W blk k) (k - 15)) + nth (sched W blk k) (k - 16)) % 2 ^ W) :
 (pad80 (sched W blk k)).set k v = pad80 (sched W blk (k + 1)) := by
 have hl := jw_ W blk k
 have e : sched W blk (k + 1) = sched W blk k ++ [v] := by simp [sched, h16, hv]
 have := pad80_set (sched W blk k) v (by omega)
 rw [e, ← this, hl]
theorem pad_get (W : Nat) (blk : List UInt8) (k i : Nat) (hi : i < k) : nth (pad80 (sched W blk k)) i = nth (sched W blk k) i :=
 pad80_getD _ _ (by rw [jw_]; exact hi)
theorem set_getD (l : List Nat) (k v : Nat) (h : k < l.length) : nth (l.set k v) k = v := by
 simp [nth, List.getD_eq_getElem?_getD, h]
theorem shl_or (W : Nat) (blk : List UInt8) (k j : Nat) (b : UInt8) (hj : j < 8) (hb : k * (W / 8) + j < blk.length) (hb' : blk[k * (W / 8) + j] = b) :
 bits .or .u64 (IntKind.u64.wrap ((part W blk k j : Int) * 256)) (IntKind.u64.wrap (b.toNat : Int)) = ((part W blk k (j + 1) : Nat) : Int) := by
 have hp := part_lt W blk k j
 have hm : 256 ^ j ≤ 256 ^ 7 := Nat.pow_le_pow_right (by decide) (by omega)
 have h7 : (256 : Nat) ^ 7 = 72057594037927936 := by decide
 have e : IntKind.u64.wrap ((part W blk k j : Int) * 256) = ((part W blk k j * 256 : Nat) : Int) := by rw [IntKind.wrap_u64]; omega
 have e2 : IntKind.u64.wrap (b.toNat : Int) = (b.toNat : Int) := by rw [IntKind.wrap_u64]; have := b.toNat_lt; omega
 rw [e, e2, u64_or_nat _ _ (by omega) (by have := b.toNat_lt; omega), or_byte, part_succ W blk k j hb, hb']
theorem sched512 (w : World) (s : ByteArray) (hs : s.size = 128) : Calls prog 166 #[K512, .string s] w fun e w' => e = .returned (.agg (Cl.u64s (msg 64 s.data.toList))) ∧ Below w.heap.size w w' := by
 rw [msg64]
 have hlen : s.data.toList.length = 128 := by simpa using hs
 unfold K512
 have k0 : k512c[0]? = some (.int .i64 64) := rfl
 have k1 : k512c[1]? = some (.int .i64 80) := rfl
 go_enter func166, ntmps166
 go_wp2_with fail
 clear k0 k1
 generalize hW : World.alloc (World.alloc (World.alloc w _) _) _ = W
 have hn : W.heap.size = w.heap.size + 1 + 1 + 1 := by subst hW; simp
 have hBW := ϕ (show Below w.heap.size w W by subst hW; exact (((Below.refl _ _).alloc (Nat.le_refl _) _).alloc (by simp) _).alloc (by simp; omega) _)
 have HK := ϕ (show Rg.Blk W w.heap.size 189 k512c by subst hW; exact ((Rg.Blk.new _ _ _).alloc _).alloc _)
 have HT := ϕ (show Rg.Blk W (w.heap.size + 1) 252 Tryz.zeroCells252 by subst hW; refine Rg.Blk.alloc (Rg.Blk.newAt ?_ _ _) _; simp)
 have HR0 := ϕ (show Cl.Row W (w.heap.size + 1 + 1) 252 (pad80 (sched 64 s.data.toList 0)) by subst hW; refine Rg.Blk.newAt ?_ _ _; simp)
 have HN := ϕ hn
 clear hW hn
 go_loopw [14] (fun i wr => ∃ k : Nat, k ≤ 80 ∧ i = .int .i64 k ∧ Cl.Row wr (w.heap.size + 1 + 1) 252 (pad80 (sched 64 s.data.toList k)) ∧ Below (w.heap.size + 1 + 1) W wr) (fun i _ => 80 - (intOf i).toNat)
 case atStart => exact ⟨0, by decide, rfl, HR0.out, Below.refl _ _⟩
 case round =>
  obtain ⟨k, hk, rfl, hR, hb⟩ := hrel
  have HR := ϕ hR
  have HB := ϕ hb
  have HK' := ϕ (HK.out.below hb (by omega))
  clear hR HR0 hb
  by_cases hlt : k < 80
  · have h80 := ϕ (pad80_length (sched 64 s.data.toList k) (by rw [jw_]; omega))
    by_cases h16 : k < 16
    · go_wp2_with fail
      obtain ⟨wo, rfl⟩ : ∃ wo : World, wo = wr := exl
      go_loopw [20] (fun i wr => ∃ j : Nat, j ≤ 8 ∧ i = .int .i64 j ∧ Cl.Row wr (w.heap.size + 1 + 1) 252 ((pad80 (sched 64 s.data.toList k)).set k (part 64 s.data.toList k j)) ∧ Below (w.heap.size + 1 + 1) W wr) (fun i _ => 8 - (intOf i).toNat)
      case atStart => exact ⟨0, by decide, rfl, by rw [sched_part0 _ _ _ (by omega)]; exact HR.out, HB.out⟩
      case round =>
       obtain ⟨j, hj, rfl, hR2, hb2⟩ := hrel
       have HR2 := ϕ hR2
       have HB2 := ϕ hb2
       clear hR2 hb2
       by_cases hjn : j < 8
       · go_wp2_with fail
         have hc := fun (t : Rg.Later wr.heap.size wr) => (t.cell (w.heap.size + 1 + 1) k HR2.out.lt).trans (HR2.out.cell k (by rw [List.length_set, h80.out]; omega))
         rw [set_getD _ _ _ (by rw [h80.out]; omega)] at hc
         have hf := fun t : Rg.Later wr.heap.size wr => (t.frozen (w.heap.size + 1 + 1) k HR2.out.lt).trans (HR2.out.frozen k)
         have hi0 : 0 ≤ (k : Int) * 8 + j := by omega
         have hi1 : (k : Int) * 8 + j < 128 := by omega
         refine Rg.jn_ wr.heap.size 15 (by kernel_rfl) (by kernel_rfl) ?_
         simp only [List.take_succ_cons, List.take_zero, List.drop_succ_cons, List.drop_zero]
         repeat (go_big_quiet_step (fail))
         refine wpQuiet_nil ?_
         rintro _ ⟨t, rfl⟩
         go_wp2
         go_roundw
         case rel =>
          refine ⟨j + 1, by omega, by go_num, ?_, (HB2.out.trans (t.is.mono (by have := HR2.out.lt; omega))).setCell (Nat.le_refl _) _⟩
          have hb : k * (64 / 8) + j < s.data.toList.length := by rw [hlen]; omega
          have hv := shl_or 64 s.data.toList k j s[k * 8 + j] (by omega) hb rfl
          rw [hv]
          have := (HR2.out.below t.is HR2.out.lt).store k (part 64 s.data.toList k (j + 1))
          rwa [List.set_set] at this
         case measure => simp [intOf]; omega
       · obtain rfl : j = 8 := by omega
         go_wp2_with fail
         go_roundw
         case rel => exact ⟨k + 1, by omega, by go_num, by rw [← sched_word _ _ _ (by omega) h16]; exact HR2.out, HB2.out⟩
         case measure => simp [intOf]; omega
    · have hsl := sched_lt 64 (by decide) s.data.toList k
      have hg := fun i => getD_lt hsl (Nat.two_pow_pos 64) i
      have Hg := ϕ (show ∀ i, nth (sched 64 s.data.toList k) i < 18446744073709551616 from hg)
      clear hsl hg
      go_wp2_with fail
      have hlw : w.heap.size + 1 + 1 < wr.heap.size := HR.out.lt
      have HL : Hid (w.heap.size < wr.heap.size) := ϕ (by omega)
      have c2 := HK'.out.cellL HL.out 2 (v := .int .i64 1) rfl
      have c3 := HK'.out.cellL HL.out 3 (v := .int .i64 8) rfl
      have c4 := HK'.out.cellL HL.out 4 (v := .int .i64 7) rfl
      have c5 := HK'.out.cellL HL.out 5 (v := .int .i64 19) rfl
      have c6 := HK'.out.cellL HL.out 6 (v := .int .i64 61) rfl
      have c7 := HK'.out.cellL HL.out 7 (v := .int .i64 6) rfl
      have hF : ∀ i, i < k → ∀ t : Rg.Later wr.heap.size wr, t.val.cell? ⟨w.heap.size + 1 + 1, i, none⟩ = some (.int .u64 (nth (sched 64 s.data.toList k) i : Nat)) := fun i hi t => by
       rw [← pad_get _ _ _ _ hi]
       exact (t.cell (w.heap.size + 1 + 1) i HR.out.lt).trans (HR.out.cell i (by rw [h80.out]; omega))
      have f2 := hF (k - 2) (by omega)
      have f7 := hF (k - 7) (by omega)
      have f15 := hF (k - 15) (by omega)
      have f16 := hF (k - 16) (by omega)
      clear hF
      have i2 : (2 : Int) ≤ k ∧ (k : Int) - 2 < 80 := by omega
      have i7 : (7 : Int) ≤ k ∧ (k : Int) - 7 < 80 := by omega
      have i15 : (15 : Int) ≤ k ∧ (k : Int) - 15 < 80 := by omega
      have i16 : (16 : Int) ≤ k ∧ (k : Int) - 16 < 80 := by omega
      have h16' : 16 ≤ k := by omega
      have ik : (k : Int) < 80 := by omega
      have hf := fun t : Rg.Later wr.heap.size wr => (t.frozen (w.heap.size + 1 + 1) k HR.out.lt).trans (HR.out.frozen k)
      have hck := fun t : Rg.Later wr.heap.size wr => (t.cell (w.heap.size + 1 + 1) k HR.out.lt).trans (HR.out.cell k (by rw [h80.out]; omega))
      refine Rg.jn_ wr.heap.size 31 (by kernel_rfl) (by kernel_rfl) ?_
      simp only [List.take_succ_cons, List.take_zero, List.drop_succ_cons, List.drop_zero]
      repeat (first | (go_big_quiet_want; refine Rg.jh_ 189 _ rfl _ rfl _ _ _ (HK'.out.later HL.out) underlying189 rfl rfl ?_; simp only [Act.put, List.setIfInBounds_toArray, List.set_cons_succ, List.set_cons_zero]; go_big_quiet_on) | go_big_quiet_step (first | (go_at_call 182; exact Rg.later_of (Nat.le_refl _) (small512_any _ _ _ _ _ (Hg.out _) (by decide) (by decide) (by decide) (by decide) (by decide) (by decide))) | (go_at_call 168; exact Rg.later_of (Nat.le_refl _) (cut512_any _ _ (Nat.mod_lt _ (by decide))))))
      refine wpQuiet_nil ?_
      rintro _ ⟨t, rfl⟩
      go_wp2
      go_roundw
      case rel =>
       refine ⟨k + 1, by omega, by go_num, ?_, (HB.out.trans (t.is.mono (by omega))).setCell (Nat.le_refl _) _⟩
       have hv := sched_next 64 s.data.toList k (by omega) h16 _ rfl
       rw [← hv]
       refine (HR.out.below t.is HR.out.lt).storeI k _ ?_
       simp only [sg0, sg1, Nat.reduceEqDiff, if_false]
       omega
      case measure => simp [intOf]; omega
  · obtain rfl : k = 80 := by omega
    have h80 := pad80_length (sched 64 s.data.toList 80) (by rw [jw_]; omega)
    have hsz : (Cl.u64s (pad80 (sched 64 s.data.toList 80))).size = 80 := by simp [Cl.u64s, h80]
    have HS := ϕ hsz
    have HT' := ϕ (HT.out.below HB.out (by omega))
    have HHB := ϕ HB.out
    clear hsz h80
    go_wp2_with (first
     | (refine wpList_load_row rfl 252 _ rfl _ rfl _ _ _ _ HR.out underlying252 rfl (by rw [HS.out]; rfl) ?_)
     | (refine wpList_store_row rfl 252 _ _ rfl _ _ rfl rfl _ _ HT'.out (by rw [HS.out]; rfl) (by rw [HS.out]; rfl) (Cl.u64s_one _) ?_))
    have hb1 : Below w.heap.size w wr := hBW.out.trans (HHB.out.mono (by omega))
    exact bodyPost_ret (v := .agg (Cl.u64s (pad80 (sched 64 s.data.toList 80))))
     (results_cell_row results166 _ _ (w.heap.size + 1) 252 _ (0, 0) _ rfl (setRow_heap _ _ _ _ _ _ HT'.out) underlying252 rfl (by rw [HS.out]; rfl)) rfl
     ⟨rfl, Rg.below_setRow hb1 (by omega) _⟩
end Sha
namespace Sha
open Go.RowKit Go.Proofs.YtciibogkfbicfaaGreatDoor.Cl
theorem one_cells (l : List Nat) : ∀ v ∈ l.map fun (x : Nat) => Value.int .u64 (x : Int), v.oneCell' = true := by
 intro v hv
 obtain ⟨x, _, rfl⟩ := List.mem_map.1 hv
 rfl
theorem blk_grown {w w' : World} {b g T : Nat} {cs : Array Value} (h : Rg.Blk w b T cs) (hg : w.grownBy w' (some g)) (hn : b ≠ g) : Rg.Blk w' b T cs := by
 unfold Rg.Blk at *
 rw [hg.block b (Array.getElem?_eq_some_iff.1 h).1 (fun e => hn (Option.some.inj e))]; exact h
theorem grown_of_below {w w' : World} (h : Below w.heap.size w w') (r : Option Nat) : w.grownBy w' r := ⟨h.os, h.tape, h.output, h.size, fun k hk _ => h.block k hk⟩
theorem grown_trans {a b c : World} {r : Option Nat} (h : a.grownBy b r) (h' : b.grownBy c r) : a.grownBy c r :=
 ⟨h'.os.trans h.os, h'.tape.trans h.tape, h'.output.trans h.output, Nat.le_trans h.size h'.size, fun k hk hr => (h'.block k (Nat.lt_of_lt_of_le hk h.size) hr).trans (h.block k hk hr)⟩
def mixPart (W : Nat) (h x : List Nat) (j : Nat) : List Nat := (List.range 8).map fun i => if i < j then (nth h i + nth x i) % 2 ^ W else nth h i
theorem mixPart_length (W : Nat) (h x : List Nat) (j : Nat) : (mixPart W h x j).length = 8 := by simp [mixPart]
theorem mixed_part (W : Nat) (blk : List UInt8) (h : List Nat) : mixed W blk h = mixPart W h (mixAll W blk h) 8 := by
 unfold mixed mixPart
 exact List.map_congr_left fun i hi => (if_pos (List.mem_range.1 hi)).symm
theorem mixPart_zero (W : Nat) (h x : List Nat) (hl : h.length = 8) : mixPart W h x 0 = h := by
 match h, hl with
 | [a, b, c, d, e, f, g, i], _ => rfl
theorem mixPart_set (W : Nat) (h x : List Nat) (j v : Nat) (hj : j < 8) (hv : v = (nth h j + nth x j) % 2 ^ W) : (mixPart W h x j).set j v = mixPart W h x (j + 1) := by
 apply List.ext_getElem
 · simp [mixPart]
 · intro i h1 h2
   rw [List.getElem_set]
   simp only [mixPart, List.getElem_map, List.getElem_range]
   by_cases hij : j = i
   · subst hij; simp [hv]
   · have : i < j + 1 ↔ i < j := by omega
     simp [hij, this]
theorem mixPart_at (W : Nat) (h x : List Nat) (j : Nat) (hj : j < 8) : nth (mixPart W h x j) j = nth h j := by
 simp [nth, mixPart, hj]
theorem mixPart_succ64 (h x : List Nat) (j : Nat) (hj : j < 8) : (mixPart 64 h x j).set j (add64 (nth (mixPart 64 h x j) j) (nth x j)) = mixPart 64 h x (j + 1) :=
 mixPart_set 64 h x j _ hj (by rw [mixPart_at _ _ _ _ hj]; rfl)
def sh (xs : List Nat) : List Nat := [nth xs 0, nth xs 0, nth xs 1, nth xs 2, nth xs 3, nth xs 4, nth xs 5, nth xs 6]
theorem sh_length (xs : List Nat) (_ : xs.length = 8) : (sh xs).length = 8 := rfl
theorem splice_sh (xs : List Nat) (h : xs.length = 8) : (splice (xs.map fun (x : Nat) => Value.int .u64 (x : Int)) 1 ((xs.take 7).map fun (x : Nat) => Value.int .u64 (x : Int))).toArray = u64s (sh xs) := by
 match xs, h with
 | [a, b, c, d, e, f, g, i], _ => rfl
theorem copy_src {w : World} {b T : Nat} {xs : List Nat} (h : Row w b T xs) (hl : xs.length = 8) : ∀ j v, ((xs.take 7).map fun (x : Nat) => Value.int .u64 (x : Int))[j]? = some v → w.cell? ((⟨b, 0, none⟩ : Addr).add j) = some v := by
 intro j v hv
 have hadd : (⟨b, 0, none⟩ : Addr).add j = ⟨b, j, none⟩ := by unfold Addr.add; split <;> simp_all
 have hj : j < 7 := by
  have := (List.getElem?_eq_some_iff.1 hv).1
  simp [hl] at this; omega
 rw [hadd, h.cell j (by omega), ← hv]
 simp [List.getElem?_take, hj, nth, List.getElem?_eq_getElem (show j < xs.length by omega)]
theorem round64 (xs : List Nat) (k wt : Nat) : ((sh xs).set 4 (add64 (nth (sh xs) 4) (add64 (add64 (add64 (add64 (nth xs 7) (three 64 (nth xs 4) 14 18 41)) (ch (nth xs 4) (nth xs 5) (nth xs 6))) (nth wordsL k)) wt))).set 0
 (add64 (add64 (add64 (add64 (add64 (nth xs 7) (three 64 (nth xs 4) 14 18 41)) (ch (nth xs 4) (nth xs 5) (nth xs 6))) (nth wordsL k)) wt) (add64 (three 64 (nth xs 0) 28 34 39) (mj (nth xs 0) (nth xs 1) (nth xs 2)))) = mixRound 64 xs (kw 64 k) wt := by
 rfl
attribute [local go_sem] wrap_add64
theorem mix512 (w : World) (hb : Nat) (hh : List Nat) (s : ByteArray) (hs : s.size = 128) (hT : Tables w) (hb2 : 2 ≤ hb) (hR : Row w hb 228 hh) (hl : hh.length = 8) (hlt : ∀ i, nth hh i < 18446744073709551616) :
 Calls prog 146 #[K512, .pointer (some ⟨hb, 0, none⟩), .string s] w fun e w' => e = .returned (.tuple #[]) ∧ Row w' hb 228 (mixed 64 s.data.toList hh) ∧ w.grownBy w' (some hb) := by
 have HR := ϕ hR
 have HT := ϕ hT
 have HLT := ϕ hlt
 have hS8 := ϕ (show (u64s hh).size = 8 by simp [u64s, hl])
 have hbl := hR.lt
 have HS80 := ϕ (show (Cl.u64s (msg 64 s.data.toList)).size = 80 by simp [Cl.u64s, msg_length])
 clear hR hT hlt hl
 unfold K512
 go_enter func146, ntmps146
 go_wp2_with (first
  | (refine bxA 189 _ ?_; intro V HK HBV HNV)
  | (refine wpList_load_row rfl 189 _ rfl w.heap.size rfl _ _ _ _ HK.out underlying189 rfl (by kernel_rfl) ?_)
  | (go_at_call 166; refine (sched512 _ _ hs).mono ?_; rintro e w1 ⟨rfl, hb1⟩; have HB1 := ϕ hb1; clear hb1; have tok := trivial)
  | (have _t := tok; refine Rg.qf_ rfl 252 _ _ rfl _ _ _ rfl rfl (by rw [HS80.out]; rfl) (by rw [HS80.out]; rfl) (u64s_one _) ?_; intro X hM hbX; clear tok _t
     have HM := ϕ hM; have HBX := ϕ hbX; clear hM hbX; have tok2 := trivial)
  | (clear tok2; refine wpList_load_row rfl 228 _ rfl hb rfl _ _ _ _ (((HR.out.below HBV.out hbl).below HB1.out (by rw [HNV.out]; omega)).below HBX.out (by have := HB1.out.size; rw [HNV.out] at this; omega)) underlying228 rfl (by rw [hS8.out]; rfl) ?_; skip; have tok3 := trivial)
  | (have _t := tok3; refine Rg.qf_ rfl 228 _ _ rfl _ _ _ rfl rfl (by rw [hS8.out]; rfl) (by rw [hS8.out]; rfl) (u64s_one _) ?_; intro Y hX hbY; clear tok3 _t; have HX := ϕ hX
     have hVw : w.heap.size + 1 ≤ w1.heap.size := by have := HB1.out.size; rw [HNV.out] at this; exact this
     have hwX : w1.heap.size ≤ X.heap.size := HBX.out.size
     have HKY := ϕ (((HK.out.below HB1.out HK.out.lt).below HBX.out (by omega)).below hbY (by omega))
     have HMY := ϕ (HM.out.below hbY HM.out.lt)
     have HBW := ϕ (show Below w.heap.size w Y from ((HBV.out.trans (HB1.out.mono (by rw [HNV.out]; omega))).trans (HBX.out.mono (by omega))).trans (hbY.mono (by omega)))
     have k1 := HKY.out.cell 1 (v := .int .i64 80) rfl
     have hXY : X.heap.size < Y.heap.size := HX.out.lt
     have hMX : w1.heap.size < X.heap.size := HM.out.lt
     clear hX hbY))
 go_loopw [20] (fun i wr => ∃ k : Nat, k ≤ 80 ∧ i = .int .i64 k ∧ Row wr X.heap.size 228 (mixTo 64 (msg 64 s.data.toList) hh k) ∧ Below X.heap.size Y wr) (fun i _ => 80 - (intOf i).toNat)
 case atStart => exact ⟨0, by decide, rfl, HX.out, Below.refl _ _⟩
 case round =>
  obtain ⟨k, hk, rfl, hR, hb⟩ := hrel
  have HRr := ϕ hR
  have HBr := ϕ hb
  have hwr : X.heap.size < wr.heap.size := hR.lt
  have HKr := ϕ (HKY.out.below hb (by omega))
  have HMr := ϕ (show Row wr w1.heap.size 252 (msg 64 s.data.toList) from HMY.out.below hb hMX)
  have HTr := ϕ ((HT.out.below HBW.out HT.out.size).below hb (by have := HT.out.size; omega))
  clear hR hb k1
  by_cases hlt : k < 80
  · go_wp2_with fail
    have hg := mixTo_lt 64 (msg 64 s.data.toList) hh HLT.out k
    have hgl := mixTo_length 64 (msg 64 s.data.toList) hh (by have := hS8.out; simpa [u64s] using this) k
    have HE := ϕ (show mixTo 64 (msg 64 s.data.toList) hh (k + 1) = mixRound 64 (mixTo 64 (msg 64 s.data.toList) hh k) (kw 64 k) (nth (msg 64 s.data.toList) k) from rfl)
    generalize mixTo 64 (msg 64 s.data.toList) hh k = xs at *
    have hKl : w.heap.size < wr.heap.size := by omega
    have hMl : w1.heap.size < wr.heap.size := by omega
    have hTl : 25 ≤ wr.heap.size := HTr.out.size
    have Hg := ϕ hg
    have Hl := ϕ hgl
    clear hg hgl
    have x0 := fun s : Rg.Later wr.heap.size wr => (s.cell X.heap.size 0 hwr).trans (HRr.out.cell 0 (by rw [Hl.out]; decide))
    have x1 := fun s : Rg.Later wr.heap.size wr => (s.cell X.heap.size 1 hwr).trans (HRr.out.cell 1 (by rw [Hl.out]; decide))
    have x2 := fun s : Rg.Later wr.heap.size wr => (s.cell X.heap.size 2 hwr).trans (HRr.out.cell 2 (by rw [Hl.out]; decide))
    have x3 := fun s : Rg.Later wr.heap.size wr => (s.cell X.heap.size 3 hwr).trans (HRr.out.cell 3 (by rw [Hl.out]; decide))
    have x4 := fun s : Rg.Later wr.heap.size wr => (s.cell X.heap.size 4 hwr).trans (HRr.out.cell 4 (by rw [Hl.out]; decide))
    have x5 := fun s : Rg.Later wr.heap.size wr => (s.cell X.heap.size 5 hwr).trans (HRr.out.cell 5 (by rw [Hl.out]; decide))
    have x6 := fun s : Rg.Later wr.heap.size wr => (s.cell X.heap.size 6 hwr).trans (HRr.out.cell 6 (by rw [Hl.out]; decide))
    have x7 := fun s : Rg.Later wr.heap.size wr => (s.cell X.heap.size 7 hwr).trans (HRr.out.cell 7 (by rw [Hl.out]; decide))
    have c8 := HKr.out.cellL hKl 8 (v := .int .i64 28) rfl
    have c9 := HKr.out.cellL hKl 9 (v := .int .i64 34) rfl
    have c10 := HKr.out.cellL hKl 10 (v := .int .i64 39) rfl
    have c11 := HKr.out.cellL hKl 11 (v := .int .i64 14) rfl
    have c12 := HKr.out.cellL hKl 12 (v := .int .i64 18) rfl
    have c13 := HKr.out.cellL hKl 13 (v := .int .i64 41) rfl
    have m := fun s : Rg.Later wr.heap.size wr => (s.cell w1.heap.size k hMl).trans (HMr.out.cell k (by rw [msg_length]; omega))
    have tk := fun s : Rg.Later wr.heap.size wr => (s.cell 24 k (Nat.lt_of_lt_of_le (by decide) hTl)).trans (HTr.out.words k (by omega))
    have ik : (k : Int) < 80 := by omega
    have b0 : ∀ i, nth xs i < 18446744073709551616 := fun i => Nat.lt_of_lt_of_le (Hg.out i) (by decide)
    have e1 := ch_e1 (nth xs 4) (nth xs 5) (b0 4) (b0 5)
    have e2 := not_u64 (nth xs 4) (b0 4)
    have e3 := ch_e3 (nth xs 4) (nth xs 6) (b0 6)
    have e4 := ch_e4 (nth xs 4) (nth xs 5) (nth xs 6) (b0 4)
    have e5 := ch_e1 (nth xs 0) (nth xs 1) (b0 0) (b0 1)
    have e6 := ch_e1 (nth xs 0) (nth xs 2) (b0 0) (b0 2)
    have e7 := ch_e1 (nth xs 1) (nth xs 2) (b0 1) (b0 2)
    have e8 := mj_e1 (nth xs 0) (nth xs 1) (nth xs 2) (b0 0)
    have e9 := mj_e2 (nth xs 0) (nth xs 1) (nth xs 2) (b0 0) (b0 1)
    clear b0
    refine Rg.js_ wr.heap.size (by kernel_rfl) (by kernel_rfl) ?_
    repeat (first | (go_big_quiet_want; refine Rg.jh_ 189 _ rfl _ rfl _ _ _ (HKr.out.later hKl) underlying189 rfl (by kernel_rfl) ?_; simp only [Act.put, List.setIfInBounds_toArray, List.set_cons_succ, List.set_cons_zero]; go_big_quiet_on) | go_big_quiet_step (first | (go_at_call 167; exact Rg.later_of (Nat.le_refl _) (large512_any _ _ _ _ _ (Hg.out _) (by decide) (by decide) (by decide) (by decide) (by decide) (by decide))) | (go_at_call 144; exact Rg.later_of (Nat.le_refl _) (word512_any _ _))))
    refine wpQuiet_nil ?_
    rintro _ ⟨s1, rfl⟩
    go_wp2_with fail
    refine Rg.wp_region_from_all (by kernel_rfl) (by kernel_rfl) ?_
    repeat (first | (go_big_quiet_want; refine Rg.jh_ 189 _ rfl _ rfl _ _ _ (HKr.out.later hKl) underlying189 rfl (by kernel_rfl) ?_; simp only [Act.put, List.setIfInBounds_toArray, List.set_cons_succ, List.set_cons_zero]; go_big_quiet_on) | go_big_quiet_step ((go_at_call 167; exact Rg.later_of (Nat.le_refl _) (large512_any _ _ _ _ _ (Hg.out _) (by decide) (by decide) (by decide) (by decide) (by decide) (by decide)))))
    refine wpQuiet_nil ?_
    rintro _ ⟨s2, rfl⟩
    go_wp2_with fail
    refine Rg.wp_region_from 2 (by kernel_rfl) (by kernel_rfl) ?_
    simp only [List.take_succ_cons, List.take_zero, List.drop_succ_cons, List.drop_zero]
    repeat (go_big_quiet_step (fail))
    refine wpQuiet_nil ?_
    rintro _ ⟨s3, rfl⟩
    have HR3 := ϕ (HRr.out.below s3.is hwr)
    have HB3 := ϕ (HBr.out.trans (s3.is.mono (by omega)))
    clear x0 x1 x2 x3 x4 x5 x6 x7 c8 c9 c10 c11 c12 c13 m tk e1 e2 e3 e4 e5 e6 e7 e8 e9
    refine wpList_copy_splice rfl (.tmp 79) (.tmp 80) 255 255 rfl 73 underlying255 (by kernel_rfl) (some ⟨X.heap.size, 1, none⟩) (some ⟨X.heap.size, 0, none⟩) 7 7 7 8 rfl rfl X.heap.size 1
     (xs.map fun (x : Nat) => Value.int .u64 (x : Int)) 228 HR3.out ((xs.take 7).map fun (x : Nat) => Value.int .u64 (x : Int)) (by simp [Hl.out]) (fun _ => ⟨rfl, _, rfl, copy_src HR3.out Hl.out⟩) (by simp [Hl.out]) (one_cells _) X.heap.size Y HB3.out (Nat.le_refl _) ?_
    intro w4 HR4 hb4
    rw [splice_sh xs Hl.out] at HR4
    have HB4 := ϕ hb4
    clear hb4
    have hw4 : X.heap.size < w4.heap.size := (show Row w4 X.heap.size 228 (sh xs) from HR4.out).lt
    have HK4 := ϕ (HKY.out.below HB4.out (by omega))
    have hsh : (sh xs).length = 8 := sh_length xs Hl.out
    have HSH := ϕ hsh
    clear hsh
    have x4 := (show Row w4 X.heap.size 228 (sh xs) from HR4.out).cell 4 (by rw [HSH.out]; decide)
    have tok5 := trivial
    go_wp2_with (first
     | (have _t := tok5; refine wpList_load_row rfl 189 _ rfl w.heap.size rfl _ _ _ _ HK4.out underlying189 rfl (by kernel_rfl) ?_; skip; clear _t)
     | (have _t := tok5; go_at_call 168; refine (cut512_any _ _ (add64_lt _ _)).mono ?_; rintro e w5 ⟨rfl, hb5⟩; skip; clear tok5 _t x4; have tok6 := trivial
        have HR5 := ϕ ((show Row w4 X.heap.size 228 (sh xs) from HR4.out).below hb5 hw4)
        have HK5 := ϕ (HK4.out.below hb5 (by omega))
        have hw5 : X.heap.size < w5.heap.size := HR5.out.lt
        have HB5 := ϕ (HB4.out.trans (hb5.mono (by omega))); clear hb5)
     | (have _t := tok6; refine qt_ rfl 73 _ _ rfl rfl rfl underlying73 (by kernel_rfl) HR5.out (by rw [HSH.out]; decide) ?_; skip; clear tok6 _t; intro w6 hR6 hg6; have tok7 := trivial
        have HR6 := ϕ hR6
        have HK6 := ϕ (blk_grown HK5.out hg6 (by omega))
        have HB6 := ϕ (HB5.out.grown hg6 (by omega) (fun k hk => by cases hk; exact Nat.le_refl _))
        clear hR6 hg6)
     | (have _t := tok7; refine wpList_load_row rfl 189 _ rfl w.heap.size rfl _ _ _ _ HK6.out underlying189 rfl (by kernel_rfl) ?_; skip; clear _t)
     | (have _t := tok7; go_at_call 168; refine (cut512_any _ _ (add64_lt _ _)).mono ?_; rintro e w7 ⟨rfl, hb7⟩; skip; clear tok7 _t; have tok8 := trivial
        have hw6 : X.heap.size < w6.heap.size := HR6.out.lt
        have HR7 := ϕ (HR6.out.below hb7 hw6)
        have HB7 := ϕ (HB6.out.trans (hb7.mono (by omega))); clear hb7)
     | (have _t := tok8; refine qt_ rfl 73 _ _ rfl rfl rfl underlying73 (by kernel_rfl) HR7.out (by rw [List.length_set, HSH.out]; decide) ?_; skip; clear tok8 _t; intro w8 hR8 hg8
        have HR8 := ϕ hR8
        have HB8 := ϕ (HB7.out.grown hg8 (by have := HR7.out.lt; omega) (fun k hk => by cases hk; exact Nat.le_refl _))
        clear hR8 hg8))
    go_roundw
    case rel =>
     refine ⟨k + 1, by omega, by go_num, ?_, HB8.out⟩
     rw [HE.out]
     exact (round64 xs k (nth (msg 64 s.data.toList) k)) ▸ HR8.out
    case measure => simp [intOf]; omega
  · obtain rfl : k = 80 := by omega
    have hxl : (mixTo 64 (msg 64 s.data.toList) hh 80).length = 8 := mixTo_length 64 _ _ (by have := hS8.out; simpa [u64s] using this) _
    have hxg := mixTo_lt 64 (msg 64 s.data.toList) hh HLT.out 80
    have HM2 := ϕ (show mixed 64 s.data.toList hh = mixPart 64 hh (mixTo 64 (msg 64 s.data.toList) hh 80) 8 by rw [mixed_part, mixAll64])
    have HRh := ϕ (show Row wr hb 228 (mixPart 64 hh (mixTo 64 (msg 64 s.data.toList) hh 80) 0) from by
     rw [mixPart_zero _ _ _ (by have := hS8.out; simpa [u64s] using this)]; exact (HR.out.below HBW.out hbl).below HBr.out (by omega))
    have HG0 := ϕ (show w.grownBy wr (some hb) from grown_of_below (HBW.out.trans (HBr.out.mono (by omega))) _)
    generalize mixTo 64 (msg 64 s.data.toList) hh 80 = xs at *
    have Hl := ϕ hxl
    have Hg := ϕ hxg
    clear hxl hxg
    obtain ⟨wo, rfl⟩ : ∃ wo : World, wo = wr := exl
    go_wp2_with fail
    go_loopw [96] (fun i wr => ∃ j : Nat, j ≤ 8 ∧ i = .int .i64 j ∧ Row wr hb 228 (mixPart 64 hh xs j) ∧ Row wr X.heap.size 228 xs ∧ Rg.Blk wr w.heap.size 189 k512c ∧ w.grownBy wr (some hb)) (fun i _ => 8 - (intOf i).toNat)
    case atStart => exact ⟨0, by decide, rfl, HRh.out, HRr.out, HKr.out, HG0.out⟩
    case round =>
     obtain ⟨j, hj, rfl, hR1, hR2, hK1, hG1⟩ := hrel
     have HH1 := ϕ hR1
     have HX1 := ϕ hR2
     have HK1 := ϕ hK1
     have HG1 := ϕ hG1
     clear hR1 hR2 hK1 hG1 HRh HG0
     by_cases hj8 : j < 8
     · go_wp2_with fail
       have hKl : w.heap.size < wr.heap.size := HK1.out.lt
       have hHl : hb < wr.heap.size := HH1.out.lt
       have hXl : X.heap.size < wr.heap.size := HX1.out.lt
       have f1 := fun s : Rg.Later wr.heap.size wr => (s.cell hb j hHl).trans (HH1.out.cell j (by rw [mixPart_length]; exact hj8))
       have f2 := fun s : Rg.Later wr.heap.size wr => (s.cell X.heap.size j hXl).trans (HX1.out.cell j (by rw [Hl.out]; exact hj8))
       have ij : (j : Int) < 8 := by omega
       refine Rg.jn_ wr.heap.size 15 (by kernel_rfl) (by kernel_rfl) ?_
       simp only [List.take_succ_cons, List.take_zero, List.drop_succ_cons, List.drop_zero]
       repeat (first | (go_big_quiet_want; refine Rg.jh_ 189 _ rfl _ rfl _ _ _ (HK1.out.later hKl) underlying189 rfl (by kernel_rfl) ?_; simp only [Act.put, List.setIfInBounds_toArray, List.set_cons_succ, List.set_cons_zero]; go_big_quiet_on) | go_big_quiet_step ((go_at_call 168; exact Rg.later_of (Nat.le_refl _) (cut512_any _ _ (add64_lt _ _)))))
       refine wpQuiet_nil ?_
       rintro _ ⟨s9, rfl⟩
       clear f1 f2
       refine qt_ rfl 73 _ _ rfl rfl rfl underlying73 (by kernel_rfl) (HH1.out.below s9.is hHl) (by rw [mixPart_length]; exact hj8) ?_
       intro w9 hR9 hg9
       have HR9 := ϕ hR9
       have HG9 := ϕ (grown_trans (grown_trans HG1.out (grown_of_below s9.is (some hb)) ) hg9)
       have HX9 := ϕ (show Row w9 X.heap.size 228 xs from blk_grown (HX1.out.below s9.is hXl) hg9 (by omega))
       have HK9 := ϕ (blk_grown (HK1.out.below s9.is hKl) hg9 (by omega))
       clear hR9 hg9
       go_wp2_with fail
       go_roundw
       case rel =>
        (repeat apply Exists.intro)
        exact ⟨⟨j + 1, by omega, by go_num, mixPart_succ64 hh xs j hj8 ▸ HR9.out, HX9.out, HK9.out, HG9.out⟩, rfl⟩
       case measure => simp [intOf]; omega
     · obtain rfl : j = 8 := by omega
       go_wp2_with fail
       exact bodyPost_end (v := .tuple #[]) (results_none results146 _ _ _) rfl ⟨rfl, by rw [HM2.out]; exact HH1.out, HG1.out⟩
end Sha
namespace Sha
open Go.RowKit Go.Proofs.YtciibogkfbicfaaGreatDoor.Cl
end Sha
namespace Ws
open Go.RowKit Go.Proofs.YtciibogkfbicfaaGreatDoor.Cl
def vals (xs : List Nat) : List Value := xs.map fun (x : Nat) => Value.int .u64 (x : Int)
def Words (w : World) (v : Value) (xs : List Nat) : Prop := ∃ b c, v = .slice (some ⟨b, 0, none⟩) xs.length c ∧ xs.length ≤ c ∧ b < w.heap.size ∧ ∀ j, j < xs.length → w.cell? ⟨b, j, none⟩ = some (.int .u64 (nth xs j : Nat))
theorem Words.below {w w' : World} {v : Value} {xs : List Nat} (h : Words w v xs) (hb : Below w.heap.size w w') : Words w' v xs := by
 obtain ⟨b, c, hv, hc, hl, hx⟩ := h
 exact ⟨b, c, hv, hc, Nat.lt_of_lt_of_le hl hb.size, fun j hj => (hb.cell (p := ⟨b, j, none⟩) hl).trans (hx j hj)⟩
def Own (w : World) (B T : Nat) (g cap : Nat) (xs : List Nat) : Prop := w.ownsRow B T 1 (.slice (some ⟨g, 0, none⟩) xs.length cap) xs.length (vals xs)
theorem Own.cell {w : World} {B T g cap : Nat} {xs : List Nat} (h : Own w B T g cap xs) (j : Nat) (hj : j < xs.length) : w.cell? ⟨g, j, none⟩ = some (.int .u64 (nth xs j : Nat)) := by
 rw [World.ownsRow.cellAt h j (by omega)]
 simp [vals, nth, hj]
theorem Own.lt {w : World} {B T g cap : Nat} {xs : List Nat} (h : Own w B T g cap xs) : B ≤ g ∧ g < w.heap.size := World.ownsRow.lt h g rfl
theorem Own.below {w w' : World} {B T g cap : Nat} {xs : List Nat} (h : Own w B T g cap xs) (hb : Below w.heap.size w w') : Own w' B T g cap xs :=
 World.ownsRow.kept h (row := none) ⟨hb.os, hb.tape, hb.output, hb.size, fun k hk _ => hb.block k hk⟩ (.inr (by simp [Value.ownBlock]))
theorem Own.cap {w : World} {B T g cap : Nat} {xs : List Nat} (h : Own w B T g cap xs) : xs.length ≤ cap := by
 rcases h.2 with ⟨h, _⟩ | ⟨g', cap', cur, hv, _, _, hc, _⟩
 · cases h
 · cases hv; exact hc
theorem Own.words {w : World} {B T g cap : Nat} {xs : List Nat} (h : Own w B T g cap xs) : Words w (.slice (some ⟨g, 0, none⟩) xs.length cap) xs :=
 ⟨g, cap, rfl, h.cap, h.lt.2, fun j hj => h.cell j hj⟩
theorem Own.row {w : World} {B T g cap n : Nat} {xs : List Nat} (h : Own w B T g cap xs) (hn : xs.length = n) : w.ownsRow B T 1 (.slice (some ⟨g, 0, none⟩) n cap) n (vals xs) := hn ▸ h
def At8 (w : World) (g : Nat) (xs : List Nat) : Prop := g < w.heap.size ∧ ∀ j, j < 8 → w.cell? ⟨g, j, none⟩ = some (.int .u64 (nth xs j : Nat))
theorem At8.below {w w' : World} {g : Nat} {xs : List Nat} (h : At8 w g xs) (hb : Below w.heap.size w w') : At8 w' g xs :=
 ⟨Nat.lt_of_lt_of_le h.1 hb.size, fun j hj => (hb.cell (p := ⟨g, j, none⟩) h.1).trans (h.2 j hj)⟩
theorem At8.grown {w w' : World} {g : Nat} {xs : List Nat} {row : Option Nat} (h : At8 w g xs) (hg : w.grownBy w' row) (hn : some g ≠ row) : At8 w' g xs :=
 ⟨Nat.lt_of_lt_of_le h.1 hg.size, fun j hj => (World.cell?_of_block (w := w) (a := ⟨g, j, none⟩) (hg.block g h.1 hn)).trans (h.2 j hj)⟩
end Ws
namespace Rg
open Go.RowKit
section
variable {P : Program} {ops : Array Oper} {md : Region.Mode} {C : World → Prop}
end
end Rg
namespace Sha
open Go.RowKit Go.Proofs.YtciibogkfbicfaaGreatDoor.Cl Go.Proofs.YtciibogkfbicfaaGreatDoor.Ws
attribute [local go_sem] wrap_add64
end Sha
namespace Sha
open Go.RowKit Go.Proofs.YtciibogkfbicfaaGreatDoor.Cl Go.Proofs.YtciibogkfbicfaaGreatDoor.Ws
attribute [local go_sem] wrap_add64
end Sha
namespace Sha
open Go.RowKit Go.Proofs.YtciibogkfbicfaaGreatDoor.Cl Go.Proofs.YtciibogkfbicfaaGreatDoor.Ws
attribute [local go_sem] wrap_add64
end Sha
namespace Bu
open Go.RowKit
theorem sizeB : (prog.info? 91).map (·.size) = some 2 := by kernel_rfl
theorem liesB : liesAt prog prog.depth 91 (2 / prog.cellsOf 91) 0 91 1 = true := by kernel_rfl
theorem infoByte : (prog.info? 5).map (fun i => (i.zero, i.size, i.bytes)) = some (some (.int .u8 0), 1, 1) := by kernel_rfl
set_option maxRecDepth 100000 in
theorem copyCheck_used (b : Nat) (w : World) (h0 : w.cell? ⟨b, 0, none⟩ = some (.pointer (some ⟨b, 0, none⟩))) :
 Calls prog 124 #[.pointer (some ⟨b, 0, none⟩)] w fun e w' => e = .returned (.tuple #[]) ∧ w' = w := by
 obtain ⟨j, hj, _⟩ := Option.map_eq_some_iff.1 sizeB
 go_enter func124, ntmps124
 go_wp2
 rw [Lib.run_neq_ptr_same w _ underlying89 hj]
 go_wp2
 go_end0
 exact ⟨rfl, rfl⟩
set_option maxRecDepth 100000 in
theorem copyCheck_fresh (b : Nat) (w : World) (h0 : w.cell? ⟨b, 0, none⟩ = some (.pointer none)) (hsh : w.shape? b = some (91, 2)) (hfz : w.frozen? ⟨b, 0, none⟩ = false) :
 Calls prog 124 #[.pointer (some ⟨b, 0, none⟩)] w fun e w' => e = .returned (.tuple #[]) ∧ w' = w.setCell ⟨b, 0, none⟩ (.pointer (some ⟨b, 0, none⟩)) := by
 obtain ⟨j, hj, hjs⟩ := Option.map_eq_some_iff.1 sizeB
 go_enter func124, ntmps124
 go_wp2
 rw [Lib.run_to_unsafe w ⟨b, 0, none⟩ underlying89 underlying232 hj (by rw [hjs]; decide) hsh (Nat.zero_lt_succ 1)]
 simp only [Result.andThen]
 rw [Oper.upon_value]
 go_wp2
 rw [run_callFunc_extern func148 (by kernel_rfl) (by kernel_rfl) (by kernel_rfl) (e := Extern.AbiNoEscape.same) (by kernel_rfl)]
 rw [Lib.run_noEscape]
 simp only [Result.andThen]
 rw [Oper.upon_value]
 go_wp2
 rw [Lib.run_from_unsafe w ⟨b, 0, none⟩ underlying232 underlying89 hj hsh liesB]
 simp only [Result.andThen]
 rw [Oper.upon_value]
 go_wp2
 go_end0
 exact ⟨rfl, rfl⟩
theorem copyCheck (B b : Nat) (bs : List Value) (w : World) (h : Lib.IsBuilder 91 5 B b bs w) :
 Calls prog 124 #[.pointer (some ⟨b, 0, none⟩)] w fun e w' => e = .returned (.tuple #[]) ∧ (Lib.BuilderAt 91 5 B b (.pointer (some ⟨b, 0, none⟩)) bs w' ∧ Below B w w') := by
 rcases h with h | h
 · refine (copyCheck_fresh b w h.cell0 h.shape h.frozen0).mono ?_
   rintro e w' ⟨rfl, rfl⟩
   exact ⟨rfl, h.used _, (Below.refl B w).setCell (p := ⟨b, 0, none⟩) h.1 _⟩
 · refine (copyCheck_used b w h.cell0).mono ?_
   rintro e w' ⟨rfl, rfl⟩
   exact ⟨rfl, h, Below.refl B _⟩
set_option maxRecDepth 100000 in
theorem writeByte (B b : Nat) (bs : List Value) (c : Int) (w : World) (h : Lib.IsBuilder 91 5 B b bs w) (hlen : bs.length + 1 ≤ 140737488355328) (hBw : B ≤ w.heap.size) :
 Calls prog 84 #[.pointer (some ⟨b, 0, none⟩), .int .u8 c] w fun e w' => e = .returned .nilIface ∧ (Lib.BuilderAt 91 5 B b (.pointer (some ⟨b, 0, none⟩)) (bs ++ [.int .u8 c]) w' ∧ Below B w w') := by
 obtain ⟨i0, hi, hz0, hz1, hz2⟩ := info_parts infoByte
 go_enter func84, ntmps84
 go_wp2_with (go_at_call 124; refine (copyCheck B b bs _ h).mono ?_)
 rintro e w1 ⟨rfl, h1, hb1⟩
 obtain ⟨hB, v, hbk, hown, hne⟩ := h1
 have c0 : w1.cell? ⟨b, 0, none⟩ = some (.pointer (some ⟨b, 0, none⟩)) := by rw [Lib.cell_of_heap hbk]; rfl
 have c1 : w1.cell? ⟨b, 1, none⟩ = some v := by rw [Lib.cell_of_heap hbk]; rfl
 go_wp2_with (at_builtin; refine wpList_append_own _ rfl _ _ 28 rfl B 5 i0 (.int .u8 0) 1 1 underlying28 hi hz0 hz1 hz2 rfl (by decide) _ _ _ rfl (hown.alloc _) ⟨w1.heap.size, 0, none⟩ 1 1 [.int .u8 c] rfl rfl ?c1 ?c2 ?c3 ?c4 ?c5 ?_)
 case c1 =>
  intro j u hj
  match j, hj with
  | 0, hj => simp at hj; subst hj; simp [Addr.add]
 case c2 => intro u hu; simp at hu; subst hu; rfl
 case c3 => unfold maxLen; omega
 case c4 => omega
 case c5 => have := hb1.size; simp; omega
 intro v' w2 hown' hgrow _
 have hlt : b < w1.heap.size := by
  rcases Nat.lt_or_ge b w1.heap.size with h' | h'
  · exact h'
  · simp [Array.getElem?_eq_none h'] at hbk
 have hb2 : w2.heap[b]? = some (.cells #[.pointer (some ⟨b, 0, none⟩), v] 91 (0, 0)) := by
  rw [hgrow.block b (by simp; omega) (fun e => hne e.symm), Lib.alloc_old w1 _ b hlt]
  exact hbk
 have d0 : w2.cell? ⟨b, 0, none⟩ = some (.pointer (some ⟨b, 0, none⟩)) := by rw [Lib.cell_of_heap hb2]; rfl
 have d1 : w2.cell? ⟨b, 1, none⟩ = some v := by rw [Lib.cell_of_heap hb2]; rfl
 have f1 : w2.frozen? ⟨b, 1, none⟩ = false := Lib.frozen_of_heap hb2 1
 obtain ⟨g, cap, rfl⟩ : ∃ g cap, v' = .slice (some ⟨g, 0, none⟩) (bs.length + 1) cap := by
  rcases hown'.2 with ⟨_, h0⟩ | ⟨g, cap, cur, hv, _⟩
  · omega
  · exact ⟨g, cap, hv⟩
 go_wp2
 go_ret
 refine ⟨rfl, ?_, ?_⟩
 · exact Lib.BuilderAt.put (T := 91) (e := 5) hB hb2 (bs' := bs ++ [.int .u8 c]) (by simpa using hown') (by decide)
 · exact ((hb1.alloc (by have := hb1.size; omega) _).grown hgrow (by have := hb1.size; simp; omega) (fun k hk => (hown.lt k hk).1)).setCell (p := ⟨b, 1, none⟩) hB _
theorem fresh (w : World) : Lib.IsBuilder 91 5 w.heap.size w.heap.size [] (w.alloc (.cells #[.pointer none, .slice none 0 0] 91)) :=
 .inl ⟨Nat.le_refl _, _, heap_alloc_new _ _, World.ownsRow_nil _ _ _ _, by simp [Value.ownBlock]⟩
end Bu
namespace Jo
open Go.RowKit
@[irreducible] def joined (xs : List ByteArray) : ByteArray := ⟨(xs.flatMap fun x => x.data.toList).toArray⟩
theorem joined_list (xs : List ByteArray) : (joined xs).data.toList = xs.flatMap fun x => x.data.toList := by unfold joined; rfl
def Parts (w : World) (v : Value) (xs : List ByteArray) : Prop :=
 (xs = [] ∧ ∃ a c, v = .slice a 0 c) ∨
 (∃ b o c, v = .slice (some ⟨b, o, none⟩) xs.length c ∧ (∀ (j : Nat) x, xs[j]? = some x → w.cell? ⟨b, o + j, none⟩ = some (.string x)) ∧ b < w.heap.size ∧ xs.length ≤ c)
theorem Parts.below {w w' : World} {v : Value} {xs : List ByteArray} (h : Parts w v xs) (hb : Below w.heap.size w w') : Parts w' v xs := by
 rcases h with h | ⟨b, o, c, hv, hc, hl, hx⟩
 · exact .inl h
 · exact .inr ⟨b, o, c, hv, fun j x hx => (hb.cell (p := ⟨b, o + j, none⟩) hl).trans (hc j x hx), Nat.lt_of_lt_of_le hl hb.size, hx⟩
theorem joinTail_nil (l : List (List UInt8)) : Lib.joinTail [] l = l.flatten := by
 unfold Lib.joinTail
 rw [show l.map (([] : List UInt8) ++ ·) = l from List.map_id' l]
theorem join_nil (l : List (List UInt8)) : Lib.join l [] = l.flatten := by
 cases l with
 | nil => rfl
 | cons x l => rw [Lib.join_cons, joinTail_nil]; rfl
theorem join_any (w : World) (v : Value) (xs : List ByteArray) (h : Parts w v xs) (hs : (joined xs).size ≤ 140737488355328) (hN : xs.length ≤ 140737488355328) :
 Calls prog 105 #[v, .string ⟨#[]⟩] w fun e w' => e = .returned (.string (joined xs)) ∧ Below w.heap.size w w' := by
 rcases h with ⟨rfl, a, c, rfl⟩ | ⟨b, o, c, rfl, hc, hl, hx⟩
 · refine (Tryz.strings_Join_none a c ⟨#[]⟩ w).mono ?_
   rintro e w' ⟨rfl, rfl⟩
   exact ⟨by unfold joined; rfl, Below.refl _ _⟩
 · have e : Lib.join (xs.map (·.data.toList)) [] = xs.flatMap fun x => x.data.toList := by rw [join_nil, List.flatMap_def]
   have hs' : (xs.flatMap fun x => x.data.toList).length ≤ 140737488355328 := by
    rw [← joined_list, Array.length_toList]; exact hs
   refine (Tryz.strings_Join b o c xs ⟨#[]⟩ w hc hl hN hx (by show (Lib.join _ []).length ≤ _; rw [e]; exact hs')).mono ?_
   rintro e' w' ⟨rfl, hb⟩
   refine ⟨?_, hb⟩
   show Ending.returned (.string ⟨(Lib.join _ []).toArray⟩) = _
   rw [e]; unfold joined; rfl
@[irreducible] def zeroStr (n : Nat) : ByteArray := ⟨(List.replicate n (0 : UInt8)).toArray⟩
theorem zeroStr_list (n : Nat) : (zeroStr n).data.toList = List.replicate n 0 := by unfold zeroStr; rfl
theorem zeroStr_size (n : Nat) : (zeroStr n).size = n := by unfold zeroStr; show (List.replicate n (0 : UInt8)).toArray.size = n; simp
theorem repeat_zero (w : World) (c : Nat) (hc : c ≤ 1000000) : Calls prog 145 #[.string ⟨#[0]⟩, .int .i64 c] w fun e w' => e = .returned (.string (zeroStr c)) ∧ Below w.heap.size w w' := by
 refine (Tryz.strings_Repeat ⟨#[0]⟩ c w (by omega) (by show 1 * c ≤ _; omega)).mono ?_
 rintro e w' ⟨rfl, hb⟩
 refine ⟨?_, hb⟩
 have e : Lib.repeatL (⟨#[0]⟩ : ByteArray).data.toList c = List.replicate c 0 := by
  show Lib.repeatL [0] c = _
  induction c with
  | zero => rfl
  | succ c ih => rw [List.replicate_succ, ← ih (by omega)]; rfl
 rw [e]; unfold zeroStr; rfl
end Jo
namespace Sha
open Go.RowKit Go.Proofs.YtciibogkfbicfaaGreatDoor.Cl
def pad8 (h : List Nat) (k : Nat) : List Nat := (List.range 8).map fun i => if i < k then nth h i else 0
theorem pad8_length (h : List Nat) (k : Nat) : (pad8 h k).length = 8 := by simp [pad8]
theorem pad8_set (h : List Nat) (k v : Nat) (hk : k < 8) (hv : v = nth h k) : (pad8 h k).set k v = pad8 h (k + 1) := by
 apply List.ext_getElem
 · simp [pad8]
 · intro i h1 h2
   rw [List.getElem_set]
   simp only [pad8, List.getElem_map, List.getElem_range]
   by_cases hij : k = i
   · subst hij; simp [hv]
   · have : i < k + 1 ↔ i < k := by omega
     simp [hij, this]
theorem pad8_all (h : List Nat) (hl : h.length = 8) : pad8 h 8 = h := by
 match h, hl with
 | [a, b, c, d, e, f, g, i], _ => rfl
theorem zero8 (w : World) (T : Nat) : Row (w.alloc (.cells #[.int .u64 0, .int .u64 0, .int .u64 0, .int .u64 0, .int .u64 0, .int .u64 0, .int .u64 0, .int .u64 0] T)) w.heap.size T (pad8 [] 0) := Rg.Blk.new w _ T
theorem pad8_zero (h : List Nat) : pad8 h 0 = pad8 [] 0 := by rfl
theorem nth_h0 (W k : Nat) (hk : k < 8) : nth (h0 W) k = if W = 32 then hi32 (nth firstL k) else nth firstL k := by
 simp [nth, h0, hk]
theorem extract_list (s : ByteArray) (n : Nat) : (s.extract n s.size).data.toList = s.data.toList.drop n := by
 simp
 exact List.take_of_length_le (by rw [List.length_drop, Array.length_toList]; exact Nat.le_refl _)
theorem extract_list0 (s : ByteArray) (n : Nat) : (s.extract 0 n).data.toList = s.data.toList.take n := by
 simp
theorem outBytes_snoc (W : Nat) (hs : List Nat) (j : Nat) (hj : j < hs.length) : Lib.byteCells (outBytes W (hs.take (j + 1))) = Lib.byteCells (outBytes W (hs.take j)) ++ Lib.byteCells (beBytes (W / 8) (nth hs j)) := by
 have e : nth hs j = hs[j] := by simp [nth, hj]
 rw [List.take_succ_eq_append_getElem hj, ← e]
 unfold outBytes Lib.byteCells
 rw [List.flatMap_append, List.map_append, List.flatMap_cons, List.flatMap_nil, List.append_nil]
def padn (n : Nat) : Nat := (128 - (n + 17) % 128) % 128
def strLen : Value → Nat
 | .string s => s.size
 | _ => 0
theorem bytes_append (a b : ByteArray) : (a ++ b).data.toList = a.data.toList ++ b.data.toList := by
 simp
theorem sum512 (w : World) (v : Value) (xs : List ByteArray) (hT : Tables w) (hP : Jo.Parts w v xs) (hs : (Jo.joined xs).size ≤ 1000000) (hN : xs.length ≤ 1000000) :
 Calls prog 118 #[K512, v] w fun e w' => e = .returned (.string ⟨(sha 64 (Jo.joined xs).data.toList).toArray⟩) ∧ Below w.heap.size w w' := by
 have HT := ϕ hT
 have HP := ϕ hP
 clear hT hP
 unfold K512
 go_enter func118, ntmps118
 go_wp2_with (first
  | (refine bxA 189 _ ?_; intro V HK HBV HNV))
 generalize hX : World.alloc V _ = X
 have HX := ϕ (show Row X V.heap.size 228 (pad8 (h0 64) 0) by subst hX; rw [pad8_zero]; exact zero8 _ _)
 have HKX := ϕ (show Rg.Blk X w.heap.size 189 k512c by subst hX; exact HK.out.alloc _)
 have HBX := ϕ (show Below w.heap.size w X by subst hX; exact HBV.out.alloc (by rw [HNV.out]; omega) _)
 have hwV : w.heap.size < V.heap.size := by rw [HNV.out]; omega
 clear hX
 go_loopw [18] (fun i wr => ∃ k : Nat, k ≤ 8 ∧ i = .int .i64 k ∧ Row wr V.heap.size 228 (pad8 (h0 64) k) ∧ Below V.heap.size X wr) (fun i _ => 8 - (intOf i).toNat)
 case atStart => exact ⟨0, by decide, rfl, HX.out, Below.refl _ _⟩
 case round =>
  obtain ⟨k, hk, rfl, hR, hb⟩ := hrel
  have hwr : V.heap.size < wr.heap.size := hR.lt
  have HR := ϕ hR
  have HB := ϕ hb
  have HKr := ϕ (HKX.out.below hb hwV)
  have HTr := ϕ ((HT.out.below HBX.out HT.out.size).below hb (by have := HT.out.size; omega))
  clear hR hb
  by_cases hk8 : k < 8
  · go_wp2_with fail
    have hKl : w.heap.size < wr.heap.size := by omega
    have tk := fun s : Rg.Later wr.heap.size wr => (s.cell 21 k (Nat.lt_of_lt_of_le (by decide) HTr.out.size)).trans (HTr.out.first k (by omega))
    have ik : (k : Int) < 8 := by omega
    refine Rg.jn_ wr.heap.size 7 (by kernel_rfl) (by kernel_rfl) ?_
    simp only [List.take_succ_cons, List.take_zero, List.drop_succ_cons, List.drop_zero]
    repeat (first | (go_big_quiet_want; refine Rg.jh_ 189 _ rfl _ rfl _ _ _ (HKr.out.later hKl) underlying189 rfl (by kernel_rfl) ?_; simp only [Act.put, List.setIfInBounds_toArray, List.set_cons_succ, List.set_cons_zero]; go_big_quiet_on) | go_big_quiet_step ((go_at_call 144; exact Rg.later_of (Nat.le_refl _) (word512_any _ _))))
    refine wpQuiet_nil ?_
    rintro _ ⟨s9, rfl⟩
    clear tk
    refine qt_ rfl 73 _ _ rfl rfl rfl underlying73 (by kernel_rfl) (HR.out.below s9.is hwr) (by rw [pad8_length]; exact hk8) ?_
    intro w9 hR9 hg9
    have HR9 := ϕ hR9
    have HB9 := ϕ ((HB.out.trans (s9.is.mono (by omega))).grown hg9 (by have := s9.is.size; omega) (fun k hk => by cases hk; exact Nat.le_refl _))
    clear hR9 hg9
    go_wp2_with fail
    go_roundw
    case rel =>
     refine ⟨k + 1, by omega, by go_num, ?_, HB9.out⟩
     exact pad8_set (h0 64) k _ hk8 (by rw [nth_h0 _ _ hk8]; try rfl) ▸ HR9.out
    case measure => simp [intOf]; omega
  · obtain rfl : k = 8 := by omega
    have kw0 := HKr.out.cell 0 (v := .int .i64 64) rfl
    have HR8 := ϕ (show Row wr V.heap.size 228 (h0 64) from pad8_all (h0 64) (h0_length _) ▸ HR.out)
    obtain ⟨n, hn⟩ : ∃ n, (Jo.joined xs).size = n := exr
    have hn' : n ≤ 1000000 := hn ▸ hs
    have hs' : (Jo.joined xs).size ≤ 140737488355328 := by omega
    have Hs := ϕ hs'
    clear hs hs'
    have HPr := ϕ (show Jo.Parts wr v xs from HP.out.below (HBX.out.trans (HB.out.mono (by omega))))
    have hp : (-(((n : Int) + 1 + 16) % 128) % 128) = ((padn n : Nat) : Int) := by unfold padn; omega
    have hp2 : ((padn n : Nat) : Int) + 16 - 8 = ((zeros 64 n : Nat) : Int) := by unfold padn zeros; omega
    have hz : zeros 64 n ≤ 256 := by unfold zeros; omega
    have hzs := Jo.zeroStr_size (zeros 64 n)
    have hq1 : ¬ 9223372036854775807 < 1 + (Jo.zeroStr (zeros 64 n)).size := by omega
    have hq2 : ¬ 9223372036854775807 < n + (1 + (Jo.zeroStr (zeros 64 n)).size) := by omega
    clear hzs
    obtain ⟨wo, rfl⟩ : ∃ wo : World, wo = wr := exl
    go_wp2_with fail
    have kL := fun s : Rg.Later wo.heap.size wo => HKr.out.cellL (show w.heap.size < wo.heap.size by omega) 0 (v := .int .i64 64) rfl s
    refine Rg.js_ wo.heap.size (by kernel_rfl) (by kernel_rfl) ?_
    repeat (go_big_quiet_step (fail))
    refine wpQuiet_nil ?_
    rintro _ ⟨s1, rfl⟩
    clear kL kw0
    go_wp2_with (first
     | (go_at_call 105; refine (Jo.join_any _ _ xs (HPr.out.below s1.is) Hs.out (by omega)).mono ?_; rintro e w2 ⟨rfl, hb2⟩; have HB2 := ϕ hb2; clear hb2)
     | (go_at_call 145; refine (Jo.repeat_zero _ (zeros 64 n) (by omega)).mono ?_; rintro e w3 ⟨rfl, hb3⟩; have HB3 := ϕ hb3; clear hb3))
    clear hq1 hq2 hp hp2
    have HT1 := ϕ (show (Jo.joined xs ++ ((⟨#[128]⟩ : ByteArray) ++ Jo.zeroStr (zeros 64 n))).data.toList = (Jo.joined xs).data.toList ++ ([128] ++ List.replicate (zeros 64 n) 0) by rw [bytes_append, bytes_append, Jo.zeroStr_list])
    have HTS := ϕ (show (Jo.joined xs ++ ((⟨#[128]⟩ : ByteArray) ++ Jo.zeroStr (zeros 64 n))).size ≤ 1000300 by rw [ByteArray.size_append, ByteArray.size_append, Jo.zeroStr_size, hn]; show n + (1 + zeros 64 n) ≤ _; omega)
    generalize Jo.joined xs ++ ((⟨#[128]⟩ : ByteArray) ++ Jo.zeroStr (zeros 64 n)) = tx at *
    have HKw := ϕ (((HKr.out.below s1.is HKr.out.lt).below HB2.out (by have := s1.is.size; omega)).below HB3.out (by have := s1.is.size; have := HB2.out.size; omega))
    have HRw := ϕ (((HR8.out.below s1.is hwr).below HB2.out (by have := s1.is.size; omega)).below HB3.out (by have := s1.is.size; have := HB2.out.size; omega))
    have HBw := ϕ (show Below w.heap.size w w3 from (((HBX.out.trans (HB.out.mono (by omega))).trans (s1.is.mono (by omega))).trans (HB2.out.mono (by have := s1.is.size; omega))).trans (HB3.out.mono (by have := s1.is.size; have := HB2.out.size; omega)))
    have HBu := ϕ (Bu.fresh w3)
    have HBY := ϕ (show Below w3.heap.size w3 (w3.alloc (.cells #[.pointer none, .slice none 0 0] 91)) from (Below.refl _ _).alloc (Nat.le_refl _) _)
    go_loopw [13] (fun i wr => ∃ k : Nat, k ≤ 8 ∧ i = .int .i64 (56 - 8 * (k : Int)) ∧ Lib.IsBuilder 91 5 w3.heap.size w3.heap.size (Lib.byteCells ((beBytes 8 (n * 8)).take k)) wr ∧ Below w3.heap.size w3 wr) (fun i _ => (intOf i + 8).toNat)
    case atStart => exact ⟨0, by decide, rfl, HBu.out, HBY.out⟩
    case round =>
     obtain ⟨k, hk, rfl, hU, hb⟩ := hrel
     have HU := ϕ hU
     have HBk := ϕ hb
     clear hU hb
     by_cases hk8 : k < 8
     · have i0 : 0 ≤ 56 - 8 * (k : Int) := by omega
       have hsz := HBk.out.size
       have hc := be_cells 8 (n * 8) k hk8 (56 - 8 * k) (by omega)
       have HC := ϕ hc
       clear hc
       have hle : (Lib.byteCells ((beBytes 8 (n * 8)).take k)).length + 1 ≤ 140737488355328 := by rw [Lib.byteCells_length, List.length_take, jg_]; omega
       have HLE := ϕ hle
       clear hle
       go_wp2_with (go_at_call 84; refine (Bu.writeByte _ _ _ _ _ HU.out HLE.out hsz).mono ?_; rintro e w5 ⟨rfl, hU5, hb5⟩; have HU5 := ϕ hU5; have HB5 := ϕ hb5; clear hU5 hb5)
       go_roundw
       case rel =>
        refine ⟨k + 1, by omega, by go_num, ?_, HBk.out.trans HB5.out⟩
        rw [HC.out]
        exact .inr HU5.out
       case measure => simp [intOf]; omega
     · obtain rfl : k = 8 := by omega
       have hsz := HBk.out.size
       have hq3 : ¬ 9223372036854775807 < tx.size + (beBytes 8 (n * 8)).length := by rw [jg_]; have := HTS.out; omega
       have htake : (beBytes 8 (n * 8)).take 8 = beBytes 8 (n * 8) := List.take_of_length_le (by rw [jg_]; exact Nat.le_refl _)
       have HU8 := ϕ (htake ▸ HU.out)
       clear htake
       go_wp2_with (first
        | (go_at_call 86; refine (Tryz.Builder_String_any _ _ _ _ HU8.out hsz).mono ?_; rintro e w6 ⟨rfl, hb6⟩; have HB6 := ϕ hb6; clear hb6))
       have HSP := ϕ (show (tx ++ (⟨(beBytes 8 (n * 8)).toArray⟩ : ByteArray)).data.toList = padded 64 (Jo.joined xs).data.toList by
        have hbl : (Jo.joined xs).data.toList.length = n := by rw [Array.length_toList]; exact hn
        rw [bytes_append, HT1.out]; unfold padded; rw [hbl])
       have HSZ := ϕ (show (tx ++ (⟨(beBytes 8 (n * 8)).toArray⟩ : ByteArray)).size ≤ 1000400 by
        rw [ByteArray.size_append]; have := HTS.out; show tx.size + (beBytes 8 (n * 8)).toArray.size ≤ _; rw [List.size_toArray, jg_]; omega)
       generalize tx ++ (⟨(beBytes 8 (n * 8)).toArray⟩ : ByteArray) = sp at *
       have hm := padded_length64 (Jo.joined xs).data.toList
       have hml : (padded 64 (Jo.joined xs).data.toList).length ≤ 2000000 := by
        rw [← HSP.out, Array.length_toList]; show sp.size ≤ _; exact Nat.le_trans HSZ.out (by decide)
       generalize hbs : (Jo.joined xs).data.toList = bs at *
       have HBS := ϕ hbs
       clear hbs
       have HM0 : padded 64 bs = padded 64 bs := rfl
       generalize hmm : padded 64 bs = m at *
       have HM := ϕ hmm
       clear hmm HM0
       have HKs := ϕ ((HKw.out.below HBk.out HKw.out.lt).below HB6.out HKw.out.lt)
       have HRs := ϕ ((HRw.out.below HBk.out HRw.out.lt).below HB6.out HRw.out.lt)
       have HBs := ϕ (show Below w.heap.size w w6 from (HBw.out.trans (HBk.out.mono HBw.out.size)).trans (HB6.out.mono HBw.out.size))
       clear hq3
       go_loopw [9] (fun s wr => ∃ (k : Nat) (sv : ByteArray), s = .string sv ∧ sv.data.toList = m.drop (k * 128) ∧ k * 128 ≤ m.length ∧ Row wr V.heap.size 228 (hashTo 64 m k) ∧ Rg.Blk wr w.heap.size 189 k512c ∧ Below w.heap.size w wr) (fun s _ => strLen s)
       case atStart => exact ⟨0, sp, rfl, by rw [HSP.out, Nat.zero_mul]; rfl, by omega, HRs.out, HKs.out, HBs.out⟩
       case round =>
        obtain ⟨k, sv, rfl, hsv, hkm, hR, hK, hb⟩ := hrel
        have hsvl : sv.size = m.length - k * 128 := by
         have := congrArg List.length hsv
         rw [Array.length_toList, List.length_drop] at this; exact this
        have HSV := ϕ hsv
        have HR := ϕ hR
        have HK := ϕ hK
        have HB := ϕ hb
        clear hsv hR hK hb
        by_cases hgo : k * 128 < m.length
        · have hge : 128 ≤ sv.size := by omega
          clear hsvl
          have hlw := HR.out.lt
          go_wp2_with fail
          have hi1 : (128 : Int) ≤ sv.size := by omega
          refine Rg.jn_ wr.heap.size 4 (by kernel_rfl) (by kernel_rfl) ?_
          simp only [List.take_succ_cons, List.take_zero, List.drop_succ_cons, List.drop_zero]
          repeat (first | (go_big_quiet_want; refine Rg.jh_ 189 _ rfl _ rfl _ _ _ (HK.out.later HK.out.lt) underlying189 rfl (by kernel_rfl) ?_; simp only [Act.put, List.setIfInBounds_toArray, List.set_cons_succ, List.set_cons_zero]; go_big_quiet_on) | go_big_quiet_step (fail))
          refine wpQuiet_nil ?_
          rintro _ ⟨s7, rfl⟩
          have hV2 : 2 ≤ V.heap.size := by have := HT.out.size; omega
          have HTx := ϕ (show Tables s7.val from (HT.out.below HB.out HT.out.size).below s7.is (by have := HT.out.size; omega))
          have hex : (sv.extract 0 128).size = 128 := by rw [ByteArray.size_extract]; omega
          have Hex := ϕ hex
          clear hex
          go_wp2_with (first
           | (go_at_call 146; refine (mix512 _ V.heap.size _ _ Hex.out HTx.out hV2 (HR.out.below s7.is hlw) (hashTo_length _ _ _) (hashTo_lt 64 (by decide) m k)).mono ?_; rintro e w8 ⟨rfl, hR8, hg8⟩; have HRm := ϕ hR8; have HGm := ϕ hg8; clear hR8 hg8))
          go_roundw
          case rel =>
           have hsv' := HSV.out
           refine ⟨k + 1, _, rfl, ?_, by omega, ?_, blk_grown (HK.out.below s7.is HK.out.lt) HGm.out (by omega), ?_⟩
           · rw [extract_list, hsv', List.drop_drop]
             congr 1; omega
           · have e : hashTo 64 m (k + 1) = mixed 64 (sv.extract 0 128).data.toList (hashTo 64 m k) := by
              rw [extract_list0, hsv']; rfl
             rw [e]; exact HRm.out
           · exact ((HB.out.trans (s7.is.mono (by have := HK.out.lt; omega))).grown HGm.out (by have := s7.is.size; have := HK.out.lt; omega) (fun k hk => by cases hk; omega))
          case measure => simp only [strLen, ByteArray.size_extract]; omega
        · obtain hkl : k * 128 = m.length := by omega
          obtain ⟨wo2, rfl⟩ : ∃ wo2 : World, wo2 = wr := exl
          have h0s : sv.size = 0 := by omega
          clear hsvl
          have HN8 := ϕ (show (u64s (hashTo 64 m k)).size = 8 by simp [u64s, hashTo_length])
          go_wp2_with (first
           | (refine wpList_load_row rfl 228 _ rfl V.heap.size rfl _ _ _ _ (Rg.Blk.alloc HR.out _) underlying228 rfl (by rw [HN8.out]; rfl) ?_))
          clear h0s
          have HBo := ϕ (show Below w.heap.size w wo2 from HB.out)
          have HKo := ϕ (show Rg.Blk wo2 w.heap.size 189 k512c from HK.out)
          have HBu2 := ϕ (Bu.fresh wo2)
          have HBY2 := ϕ (show Below wo2.heap.size wo2 (wo2.alloc (.cells #[.pointer none, .slice none 0 0] 91)) from (Below.refl _ _).alloc (Nat.le_refl _) _)
          have hhl := hashTo_length 64 m k
          have HSHA := ϕ (show sha 64 bs = outBytes 64 (hashTo 64 m k) by
           unfold sha; rw [HM.out]; congr 2; omega)
          have hwo : w.heap.size < wo2.heap.size := HKo.out.lt
          generalize hashTo 64 m k = hs at *
          go_loopw [83] (fun i wr => ∃ j : Nat, j ≤ 8 ∧ i = .int .i64 j ∧ Lib.IsBuilder 91 5 wo2.heap.size wo2.heap.size (Lib.byteCells (outBytes 64 (hs.take j))) wr ∧ Below wo2.heap.size wo2 wr) (fun i _ => 8 - (intOf i).toNat)
          case atStart => exact ⟨0, by decide, rfl, HBu2.out, HBY2.out⟩
          case round =>
           obtain ⟨j, hj, rfl, hU, hb⟩ := hrel
           have HU2 := ϕ hU
           have HBk2 := ϕ hb
           clear hU hb
           by_cases hj8 : j < 8
           · have hidx := fun w => index_words (P := prog) 228 73 8 hs j underlying228 underlying73 (by kernel_rfl) hhl hj8 w
             have kw0 := (HKo.out.below HBk2.out hwo).cell 0 (v := .int .i64 64) rfl
             obtain ⟨wo3, rfl⟩ : ∃ wo3 : World, wo3 = wr := exl
             have hd : decide ((j : Int) < 8) = true := by simp; omega
             go_wp2_with fail
             clear hd
             clear hidx kw0
             go_loopw [17] (fun i wr => ∃ l : Nat, l ≤ 8 ∧ i = .int .i64 (56 - 8 * (l : Int)) ∧ Lib.IsBuilder 91 5 wo2.heap.size wo2.heap.size (Lib.byteCells (outBytes 64 (hs.take j)) ++ Lib.byteCells ((beBytes 8 (nth hs j)).take l)) wr ∧ Below wo2.heap.size wo2 wr) (fun i _ => (intOf i + 8).toNat)
             case atStart => exact ⟨0, by omega, rfl, by rw [show (beBytes 8 (nth hs j)).take 0 = [] from rfl, show Lib.byteCells [] = [] from rfl, List.append_nil]; exact HU2.out, HBk2.out⟩
             case round =>
              obtain ⟨l, hl, rfl, hU, hb⟩ := hrel
              have HU3 := ϕ hU
              have HBk3 := ϕ hb
              have hsz := HBk3.out.size
              clear hU hb
              by_cases hl8 : l < 8
              · have i0 : 0 ≤ 56 - 8 * (l : Int) := by omega
                have HC := ϕ (be_cells 8 (nth hs j) l hl8 (56 - 8 * l) (by omega))
                have hle : (Lib.byteCells (outBytes 64 (hs.take j)) ++ Lib.byteCells ((beBytes 8 (nth hs j)).take l)).length + 1 ≤ 140737488355328 := by
                 rw [List.length_append, Lib.byteCells_length, Lib.byteCells_length, outBytes_length, List.length_take, List.length_take, jg_]
                 have : min j hs.length * (64 / 8) ≤ 8 * 8 := Nat.mul_le_mul (by omega) (by decide)
                 omega
                have HLE := ϕ hle
                clear hle
                go_wp2_with (go_at_call 84; refine (Bu.writeByte _ _ _ _ _ HU3.out HLE.out hsz).mono ?_; rintro e w9 ⟨rfl, hU9, hb9⟩; have HU9 := ϕ hU9; have HB9 := ϕ hb9; clear hU9 hb9)
                go_roundw
                case rel =>
                 have hU10 : Lib.IsBuilder 91 5 wo2.heap.size wo2.heap.size (Lib.byteCells (outBytes 64 (hs.take j)) ++ Lib.byteCells ((beBytes 8 (nth hs j)).take (l + 1))) w9 := by
                  rw [HC.out, ← List.append_assoc]
                  exact .inr HU9.out
                 first
                  | exact ⟨l + 1, by omega, by go_num, hU10, HBk3.out.trans HB9.out⟩
                  | ((repeat apply Exists.intro); refine ⟨?_, rfl⟩; exact ⟨l + 1, by omega, by go_num, hU10, HBk3.out.trans HB9.out⟩)
                case measure => simp [intOf]; omega
              · obtain rfl : l = 8 := by omega
                go_wp2_with fail
                go_roundw
                case rel =>
                 have hU11 : Lib.IsBuilder 91 5 wo2.heap.size wo2.heap.size (Lib.byteCells (outBytes 64 (hs.take (j + 1)))) wr := by
                  rw [outBytes_snoc 64 hs j (by omega)]
                  have := HU3.out
                  rwa [show (beBytes 8 (nth hs j)).take 8 = beBytes 8 (nth hs j) from List.take_of_length_le (by rw [jg_]; exact Nat.le_refl _)] at this
                 first
                  | exact ⟨j + 1, by omega, by go_num, hU11, HBk3.out⟩
                  | ((repeat apply Exists.intro); refine ⟨?_, rfl⟩; exact ⟨j + 1, by omega, by go_num, hU11, HBk3.out⟩)
                case measure => simp [intOf]; omega
           · obtain rfl : j = 8 := by omega
             have hsz := HBk2.out.size
             have HU8b := ϕ (show Lib.IsBuilder 91 5 wo2.heap.size wo2.heap.size (Lib.byteCells (outBytes 64 hs)) wr from (show hs.take 8 = hs from List.take_of_length_le (by omega)) ▸ HU2.out)
             go_wp2_with (first
              | (go_at_call 86; refine (Tryz.Builder_String_any _ _ _ _ HU8b.out hsz).mono ?_; rintro e w6 ⟨rfl, hb6⟩; have HB6b := ϕ hb6; clear hb6))
             go_ret
             exact ⟨by rw [HBS.out, HSHA.out]; rfl, (HBo.out.trans (HBk2.out.mono (by omega))).trans (HB6b.out.mono (by omega))⟩
open Go.Proofs.YtciibogkfbicfaaGreatDoor.Cv
theorem kind512_any (w : World) : Calls prog 117 #[] w fun e w' => e = .returned K512 ∧ Below w.heap.size w w' := by
 unfold K512 k512c
 go_enter func117, ntmps117
 go_wp2
 exact bodyPost_ret (v := K512) (by simp [results, results117, go_sem, K512, k512c]) rfl ⟨rfl, (Below.refl _ _).alloc (Nat.le_refl _) _⟩
theorem Sum512_any (w : World) (v : Value) (xs : List ByteArray) (hT : Tables w) (hP : Jo.Parts w v xs) (hs : (Jo.joined xs).size ≤ 1000000) (hN : xs.length ≤ 1000000) :
 Calls prog 77 #[v] w fun e w' => e = .returned (.agg (bytesV (sha 64 (Jo.joined xs).data.toList))) ∧ Below w.heap.size w w' := by
 have HT := ϕ hT
 have HP := ϕ hP
 have Hs := ϕ hs
 have HL := ϕ (sha_length 64 (by decide) (Jo.joined xs).data.toList)
 have HZ := ϕ (show (bytesV (sha 64 (Jo.joined xs).data.toList)).size = 64 by rw [qa_, HL.out])
 clear hT hP hs
 go_enter func77, ntmps77
 go_wp2_with fail
 generalize hX : World.alloc w _ = X
 have HBX := ϕ (show Below w.heap.size w X by subst hX; exact (Below.refl _ _).alloc (Nat.le_refl _) _)
 have HR := ϕ (show ∃ cs : Array Value, cs.size = 64 ∧ Rg.Blk X w.heap.size 29 cs by subst hX; exact ⟨_, rfl, Rg.Blk.new _ _ _⟩)
 have hXs : w.heap.size < X.heap.size := by obtain ⟨cs, _, h⟩ := HR.out; exact h.lt
 clear hX
 go_wp2_with (first
  | (go_at_call 117; refine (kind512_any _).mono ?_; rintro e w1 ⟨rfl, hb1⟩; have HB1 := ϕ hb1; clear hb1)
  | (go_at_call 118; refine (sum512 _ _ xs ((HT.out.below HBX.out HT.out.size).below HB1.out (by have := HT.out.size; omega)) ((HP.out.below HBX.out).below (HB1.out.mono (Nat.le_refl _) |>.mono (Nat.le_refl _))) Hs.out hN).mono ?_; rintro e w2 ⟨rfl, hb2⟩; have HB2 := ϕ hb2; clear hb2
     have HSL := ϕ (show (⟨(sha 64 (Jo.joined xs).data.toList).toArray⟩ : ByteArray).data.toList = sha 64 (Jo.joined xs).data.toList from rfl)
     have hsz : (⟨(sha 64 (Jo.joined xs).data.toList).toArray⟩ : ByteArray).size = 64 := by show (sha 64 _).toArray.size = 64; rw [List.size_toArray, HL.out]
     generalize (⟨(sha 64 (Jo.joined xs).data.toList).toArray⟩ : ByteArray) = sb at *
     have HSZ := ϕ hsz
     clear hsz)
  | (refine conv_bytes rfl 9 28 5 _ rfl rfl underlying9 underlying28 underlying5 ?_; intro Y cap hY hfY hbY hnY hcY; have HY := ϕ hY; have HBY := ϕ hbY; clear hY hfY hbY hnY hcY)
  | (refine ju_ rfl 29 5 64 _ rfl _ _ _ _ rfl underlying29 (by rw [HSZ.out]; decide) ?_)
  | (refine qi_ rfl 29 _ rfl _ 0 rfl (bytesV (sha 64 (Jo.joined xs).data.toList)) _ (HSL.out ▸ HY.out).cells underlying29 rfl (by rw [HZ.out]; rfl) ?_)
  | (obtain ⟨cs, hcs, hB⟩ := HR.out
     refine qs_ rfl 29 _ _ rfl w.heap.size _ cs 29 rfl rfl (((hB.below HB1.out hXs).below HB2.out (by have := HB1.out.size; omega)).below HBY.out (by have := HB1.out.size; have := HB2.out.size; omega)) (by rw [HZ.out]; rfl) (by rw [hcs, HZ.out]) (qn_ _) ?_
     intro Z hZ hgZ; have HZZ := ϕ hZ; have HGZ := ϕ hgZ; clear hZ hgZ hcs hB))
 exact bodyPost_ret (v := .agg (bytesV (sha 64 (Jo.joined xs).data.toList)))
  (results_cell_row results77 _ _ w.heap.size 29 _ (0, 0) _ rfl HZZ.out underlying29 rfl (by rw [HZ.out]; rfl)) rfl
  ⟨rfl, (((HBX.out.trans (HB1.out.mono (by omega))).trans (HB2.out.mono (by have := HB1.out.size; omega))).trans (HBY.out.mono (by have := HB1.out.size; have := HB2.out.size; omega))).grown HGZ.out (by have := HB1.out.size; have := HB2.out.size; have := HBY.out.size; omega) (fun k hk => by cases hk; exact Nat.le_refl _)⟩
open Go.Proofs.YtciibogkfbicfaaGreatDoor.Ws Go.Proofs.YtciibogkfbicfaaGreatDoor.Ow
end Sha
namespace Rf
open Go.RowKit Go.Proofs.YtciibogkfbicfaaGreatDoor.Ow Go.Proofs.YtciibogkfbicfaaGreatDoor.Kx Go.Proofs.YtciibogkfbicfaaGreatDoor.Dg Go.Proofs.YtciibogkfbicfaaGreatDoor.Ed
theorem clamp_sets {l : List UInt8} (hl : l.length = 32) {a b : UInt8} (ha : l[0]? = some a) (hb : l[31]? = some b) : clampB l = (l.set 0 (a &&& 248)).set 31 (b &&& 63 ||| 64) := by
 unfold clampB
 simp only
 have e1 : l.getD 0 0 = a := by rw [List.getD_eq_getElem?_getD, ha]; rfl
 have e2 : (l.set 0 (a &&& 248)).getD 31 0 = b := by rw [List.getD_eq_getElem?_getD, List.getElem?_set_ne (by omega), hb]; rfl
 rw [e1, e2]
def bs (l : List UInt8) : ByteArray := ⟨l.toArray⟩
theorem bs_list (l : List UInt8) : (bs l).data.toList = l := rfl
theorem red_lt (l : List UInt8) : red l < Ed.L := Nat.mod_lt _ l_pos
theorem leN_l {n : Nat} (h : n < Ed.L) : leN (toLe 32 n) = n := by
 rw [leN_toLe]
 exact Nat.mod_eq_of_lt (Nat.lt_of_lt_of_le h (by decide +kernel))
theorem clampB_l (h : List UInt8) (hl : h.length = 64) : (secA h).length = 32 := by unfold secA; rw [clampB_len, List.length_take, hl]; rfl
end Rf
namespace Ed
open Go.Proofs.YtciibogkfbicfaaGreatDoor.Nt Go.Proofs.YtciibogkfbicfaaGreatDoor.Kx Go.Proofs.YtciibogkfbicfaaGreatDoor.Rf
theorem mul_modL (n : Nat) : Pt.mul (n % L) base = Pt.mul n base := by
 have h : Pt.mul n base = Pt.mul (L * (n / L) + n % L) base := by rw [Nat.div_add_mod]
 rw [h, Pt.mul_add, Pt.mul_mul, Pt.mul_swap, ord_base, Pt.mul_zero, Pt.zero_add]
theorem mul_cong {m n : Nat} (h : m % L = n % L) : Pt.mul m base = Pt.mul n base := by rw [← mul_modL m, h, mul_modL]
theorem neg_is (a : Nat) (l : Nat) (hl : L = l + 1) : (Pt.mul a base).neg = Pt.mul (l * a) base := by
 refine Pt.cancel _ _ (Pt.mul a base) ?_
 rw [Pt.comm, Pt.add_neg, ← Pt.mul_add, show l * a + a = L * a by rw [hl, Nat.add_mul, Nat.one_mul], Pt.mul_mul, Pt.mul_swap, ord_base, Pt.mul_zero]
theorem check_is (S k a l : Nat) (hl : L = l + 1) : (Pt.mul S base).add (Pt.mul k (Pt.mul a base).neg) = Pt.mul (S + k * (l * a)) base := by
 rw [neg_is a l hl, ← Pt.mul_mul, ← Pt.mul_add]
theorem sum_mod (k a r l n : Nat) (hl : n = l + 1) : ((k * a + r) % n + k * (l * a)) % n = r % n := by
 rw [Nat.add_mod, Nat.mod_mod, ← Nat.add_mod]
 have : k * a + r + k * (l * a) = r + n * (k * a) := by
  rw [hl, Nat.add_mul, Nat.one_mul, Nat.mul_left_comm k l a]
  omega
 rw [this, Nat.add_mul_mod_self_left]
def Lm : Nat := 7237005577332262213973186563042994240857116359379907606001950938285454250988
theorem Lm_eq : L = Lm + 1 := by decide +kernel
theorem enc_inj {p q : Pt} (h : enc p = enc q) : p = q := by
 have h1 := dec_enc p
 rw [h, dec_enc q] at h1
 exact (some_eq (P := fun x => x = q) h1 rfl)
theorem dec_pub (seed : List UInt8) : dec (pub seed) = some (pubP seed) := dec_enc _
theorem ver_sig (seed m : List UInt8) : ver (pub seed) m (enc (rP seed m)) (toLe 32 (sN seed (pub seed) m)) = true := by
 rw [ver_some (dec_pub seed)]
 have hS : sN seed (pub seed) m < L := Nat.mod_lt _ l_pos
 rw [leN_l hS, decide_eq_true hS, Bool.true_and]
 refine decide_eq_true (congrArg enc ?_)
 show (Pt.mul _ base).add (Pt.mul _ (Pt.mul (aN seed) base).neg) = Pt.mul (rN seed m) base
 rw [check_is _ _ _ _ Lm_eq]
 refine mul_cong ?_
 unfold sN
 exact sum_mod _ _ _ _ _ Lm_eq
theorem mulB_ne {x r : Nat} (h : (x + (L - r % L)) % L ≠ 0) : Pt.mul x base ≠ Pt.mul r base := fun e => by
 have h1 : Pt.mul (x + (L - r % L)) base = Pt.zero := by
  rw [Pt.mul_add, e, ← mul_modL r, ← Pt.mul_add, show r % L + (L - r % L) = L by have := Nat.mod_lt r l_pos; omega, ord_base]
 exact base_ne (Pt.order Nt.pr_l ord_base h1 (fun hd => h (Nat.mod_eq_zero_of_dvd hd)))
def s1 : List UInt8 := [1, 0, 0, 0, 0, 0, 0, 0, 0, 0, 0, 0, 0, 0, 0, 0, 0, 0, 0, 0, 0, 0, 0, 0, 0, 0, 0, 0, 0, 0, 0, 0]
def d1 : List UInt8 := [206, 12, 38, 94, 204, 130, 221, 140, 238, 110, 86, 206, 68, 228, 93, 175, 215, 160, 197, 117, 13, 249, 20, 178, 83, 161, 251, 122, 138, 246, 109, 219, 153, 118, 54, 7, 240, 168, 93, 11, 212, 54, 105, 25, 74, 58, 64, 87, 122, 82, 138, 243, 149, 244, 241, 126, 6, 241, 222, 252, 198, 222, 178, 165]
def r1 : List UInt8 := [201, 109, 201, 63, 7, 56, 97, 11, 167, 251, 241, 72, 213, 248, 62, 58, 247, 169, 150, 2, 66, 169, 61, 247, 125, 196, 208, 55, 148, 83, 246, 35]
theorem pub_ne {s t : List UInt8} {x r : Nat} (hs : aN s = x) (ht : aN t = r) (h : (x + (L - r % L)) % L ≠ 0) : pub s ≠ pub t := fun e => by
 have h1 : pubP s = pubP t := enc_inj e
 unfold pubP at h1
 rw [hs, ht] at h1
 exact mulB_ne h h1
def sd0 : List UInt8 := [7, 0, 0, 0, 0, 0, 0, 0, 0, 0, 0, 0, 0, 0, 0, 0, 0, 0, 0, 0, 0, 0, 0, 0, 0, 0, 0, 0, 0, 0, 0, 0]
def ds0 : List UInt8 := [30, 99, 235, 65, 17, 182, 247, 76, 178, 83, 156, 158, 43, 100, 56, 169, 221, 155, 58, 236, 127, 8, 57, 33, 240, 97, 130, 41, 171, 190, 109, 223, 133, 0, 0, 169, 105, 225, 93, 50, 128, 27, 49, 80, 119, 34, 43, 201, 50, 214, 165, 55, 186, 99, 169, 213, 1, 248, 60, 63, 148, 211, 115, 144]
theorem ds0_is : dig5 sd0 = ds0 := by decide +kernel
theorem as0_is : aN sd0 = 43163622891799361314102505944223169546670986980999473268784120504132559397656 := by
 unfold aN
 rw [ds0_is]
 decide +kernel
def sd1 : List UInt8 := [7, 1, 0, 0, 0, 0, 0, 0, 0, 0, 0, 0, 0, 0, 0, 0, 0, 0, 0, 0, 0, 0, 0, 0, 0, 0, 0, 0, 0, 0, 0, 0]
def ds1 : List UInt8 := [38, 163, 82, 72, 191, 237, 162, 47, 116, 173, 20, 235, 65, 83, 159, 181, 204, 240, 79, 7, 219, 199, 95, 173, 182, 82, 105, 3, 144, 182, 200, 46, 120, 92, 152, 59, 151, 8, 72, 61, 77, 225, 218, 114, 119, 206, 104, 55, 120, 209, 34, 38, 107, 214, 169, 12, 23, 143, 235, 7, 252, 129, 65, 35]
theorem ds1_is : dig5 sd1 = ds1 := by decide +kernel
theorem as1_is : aN sd1 = 50109042757541679824522380599205779548317501280896932723889322390179969934112 := by
 unfold aN
 rw [ds1_is]
 decide +kernel
def sd2 : List UInt8 := [7, 2, 0, 0, 0, 0, 0, 0, 0, 0, 0, 0, 0, 0, 0, 0, 0, 0, 0, 0, 0, 0, 0, 0, 0, 0, 0, 0, 0, 0, 0, 0]
def ds2 : List UInt8 := [230, 212, 224, 141, 23, 205, 151, 91, 196, 105, 181, 50, 179, 139, 101, 218, 83, 87, 21, 26, 247, 15, 238, 87, 14, 136, 96, 157, 30, 155, 59, 37, 109, 91, 89, 142, 38, 202, 22, 111, 170, 48, 243, 94, 6, 152, 101, 225, 127, 198, 71, 222, 149, 249, 229, 27, 56, 197, 105, 214, 27, 147, 230, 191]
theorem ds2_is : dig5 sd2 = ds2 := by decide +kernel
theorem as2_is : aN sd2 = 45788912279787722988006067370959491736462866546837753369408410467641994564832 := by
 unfold aN
 rw [ds2_is]
 decide +kernel
def sd3 : List UInt8 := [7, 3, 0, 0, 0, 0, 0, 0, 0, 0, 0, 0, 0, 0, 0, 0, 0, 0, 0, 0, 0, 0, 0, 0, 0, 0, 0, 0, 0, 0, 0, 0]
def ds3 : List UInt8 := [19, 197, 224, 146, 7, 123, 127, 67, 130, 181, 43, 239, 236, 226, 104, 100, 148, 68, 232, 144, 220, 147, 43, 135, 0, 147, 97, 176, 170, 232, 101, 64, 33, 220, 87, 58, 213, 242, 237, 244, 2, 67, 50, 13, 52, 109, 43, 134, 229, 184, 135, 216, 211, 180, 6, 45, 208, 117, 95, 98, 100, 107, 43, 92]
theorem ds3_is : dig5 sd3 = ds3 := by decide +kernel
theorem as3_is : aN sd3 = 29128079669790157541976083705049608017802361747625324368946691389413100930320 := by
 unfold aN
 rw [ds3_is]
 decide +kernel
def sdN (i : Nat) : List UInt8 := if i = 0 then sd0 else if i = 1 then sd1 else if i = 2 then sd2 else sd3
theorem sdN_len (i : Nat) : (sdN i).length = 32 := by
 unfold sdN
 split
 · decide
 · split
   · decide
   · split <;> decide
def kyN (i : Nat) : List UInt8 := pub (sdN i)
theorem kyN_len (i : Nat) : (kyN i).length = 32 := enc_len _
theorem ne01 : kyN 0 ≠ kyN 1 := pub_ne as0_is as1_is (by decide +kernel)
theorem ne02 : kyN 0 ≠ kyN 2 := pub_ne as0_is as2_is (by decide +kernel)
theorem ne03 : kyN 0 ≠ kyN 3 := pub_ne as0_is as3_is (by decide +kernel)
theorem ne12 : kyN 1 ≠ kyN 2 := pub_ne as1_is as2_is (by decide +kernel)
theorem ne13 : kyN 1 ≠ kyN 3 := pub_ne as1_is as3_is (by decide +kernel)
theorem ne23 : kyN 2 ≠ kyN 3 := pub_ne as2_is as3_is (by decide +kernel)
end Ed
namespace Mg
open Go.Proofs.YtciibogkfbicfaaGreatDoor.Wi Go.Proofs.YtciibogkfbicfaaGreatDoor.Be
def rowsL : List (Nat × List UInt8 × List UInt8) := [
 (1, [100, 105, 115, 99, 111, 110, 110, 101, 99, 116], [117, 115, 115]),
 (2, [105, 103, 110, 111, 114, 101], [115]),
 (3, [117, 110, 105, 109, 112, 108, 101, 109, 101, 110, 116, 101, 100], [117]),
 (4, [100, 101, 98, 117, 103], [98, 115, 115]),
 (5, [115, 101, 114, 118, 105, 99, 101, 45, 114, 101, 113, 117, 101, 115, 116], [115]),
 (6, [115, 101, 114, 118, 105, 99, 101, 45, 97, 99, 99, 101, 112, 116], [115]),
 (20, [107, 101, 120, 105, 110, 105, 116], [99, 110, 110, 110, 110, 110, 110, 110, 110, 110, 110, 98, 117]),
 (21, [110, 101, 119, 107, 101, 121, 115], []),
 (30, [101, 99, 100, 104, 45, 105, 110, 105, 116], [115]),
 (31, [101, 99, 100, 104, 45, 114, 101, 112, 108, 121], [115, 115, 115]),
 (50, [97, 117, 116, 104, 45, 114, 101, 113, 117, 101, 115, 116], [115, 115, 115, 114]),
 (51, [97, 117, 116, 104, 45, 102, 97, 105, 108, 117, 114, 101], [110, 98]),
 (52, [97, 117, 116, 104, 45, 115, 117, 99, 99, 101, 115, 115], []),
 (53, [98, 97, 110, 110, 101, 114], [115, 115]),
 (60, [112, 107, 45, 111, 107], [115, 115]),
 (80, [103, 108, 111, 98, 97, 108, 45, 114, 101, 113, 117, 101, 115, 116], [115, 98, 114]),
 (81, [114, 101, 113, 117, 101, 115, 116, 45, 115, 117, 99, 99, 101, 115, 115], [114]),
 (82, [114, 101, 113, 117, 101, 115, 116, 45, 102, 97, 105, 108, 117, 114, 101], []),
 (90, [111, 112, 101, 110], [115, 117, 117, 117, 114]),
 (91, [99, 111, 110, 102, 105, 114, 109], [117, 117, 117, 117, 114]),
 (92, [111, 112, 101, 110, 45, 102, 97, 105, 108, 117, 114, 101], [117, 117, 115, 115]),
 (93, [97, 100, 106, 117, 115, 116], [117, 117]),
 (94, [100, 97, 116, 97], [117, 115]),
 (95, [101, 120, 116, 101, 110, 100, 101, 100], [117, 117, 115]),
 (96, [101, 111, 102], [117]),
 (97, [99, 108, 111, 115, 101], [117]),
 (98, [99, 104, 97, 110, 110, 101, 108, 45, 114, 101, 113, 117, 101, 115, 116], [117, 115, 98, 114]),
 (99, [99, 104, 97, 110, 110, 101, 108, 45, 115, 117, 99, 99, 101, 115, 115], [117]),
 (100, [99, 104, 97, 110, 110, 101, 108, 45, 102, 97, 105, 108, 117, 114, 101], [117])]
def rowOf (k : Int) : Option (Nat × List UInt8 × List UInt8) := rowsL.find? fun r => decide ((r.1 : Int) = k)
def isK (k : Int) : Bool := (rowOf k).isSome
def ltr (k : Int) : List UInt8 := ((rowOf k).map (·.2.2)).getD []
def nam (k : Int) : List UInt8 := ((rowOf k).map (·.2.1)).getD []
structure Msg where
 kind : Int
 u : List Nat
 s : List ByteArray
 n : List (List ByteArray)
 b : List Bool
def cntS (l : List UInt8) : Nat := l.count 115 + l.count 99 + l.count 114
def counted (l : List UInt8) (m : Msg) : Bool := decide (m.u.length = l.count 117) && decide (m.s.length = cntS l) && decide (m.n.length = l.count 110) && decide (m.b.length = l.count 98)
def hd (s : List ByteArray) : ByteArray := s.headD ⟨#[]⟩
def chk : List UInt8 → List ByteArray → List (List ByteArray) → Bool → Bool → Bool × Bool
 | [], _, _, w, b => (w, b)
 | c :: l, s, n, w, b =>
  if c = 99 then chk l s.tail n (decide ((hd s).size ≠ 16) || w) b
  else if c = 115 ∨ c = 114 then chk l s.tail n w (decide (32768 < (hd s).size) || b)
  else if c = 110 then chk l s n.tail (w || !(n.headD []).all okN) (b || ((n.headD []).all okN && decide (4096 < (joinC (n.headD [])).length)))
  else chk l s n w b
def checkC (m : Msg) : Nat :=
 if isK m.kind = false then 20 else if counted (ltr m.kind) m = false then 1
 else if (chk (ltr m.kind) m.s m.n false false).1 then 1 else if (chk (ltr m.kind) m.s m.n false false).2 then 4 else 0
def zero : Msg := ⟨0, [], [], [], []⟩
theorem rowOf_mem {k : Int} {r : Nat × List UInt8 × List UInt8} (h : rowOf k = some r) : r ∈ rowsL ∧ (r.1 : Int) = k := by
 unfold rowOf at h
 exact ⟨List.mem_of_find?_eq_some h, by simpa using List.find?_some h⟩
end Mg
namespace St
open Go.RowKit Go.Proofs.YtciibogkfbicfaaGreatDoor.Ow
variable {P : Program}
theorem run_appN (w : World) (t ty : TypeId) {E : TypeId} {z : Value} {sz by' : Nat} (ht : P.underlying t = some (.slice E)) (hI : (P.info? E).map (fun i => (i.zero, i.size, i.bytes)) = some (some z, sz, by')) (hz : z.cells.size = sz) (hsz : 0 < sz) (hby : 0 < by')
 {B n : Nat} {v : Value} {xs : List Value} (hO : w.ownsRow B E sz v n xs) {ad : Addr} {m c : Nat} {ys : List Value} (hm : ys.length = m * sz) (hR : Rd w (some ad) ys) (h1 : ∀ u ∈ ys, u.oneCell' = true)
 (hb : (n + m) * by' ≤ 140737488355328) (hB : B ≤ w.heap.size) :
 ∃ v' w', (Builtin.append_ #[t, t] ty #[v, .slice (some ad) m c]).run P w = .ok v' w' ∧ w'.ownsRow B E sz v' (n + m) (xs ++ ys) ∧ w.grownBy w' v.ownBlock ∧ (v'.ownBlock = v.ownBlock ∨ v'.ownBlock = some w.heap.size) := by
 obtain ⟨i, hi, hz0, hz1, hz2⟩ := info_parts hI
 have hmax : n + m ≤ maxLen := by
  have : n + m ≤ (n + m) * by' := Nat.le_mul_of_pos_right _ hby
  simp only [maxLen]; omega
 obtain ⟨v', w', hr, ho, hg, _, hat⟩ := run_append_own_at (P := P) w B t ty E i z sz by' ht hi hz0 hz1 hz2 hz hsz v n xs hO ad m c ys hm (fun j u hu => by
  obtain ⟨b, o, e, _, hc⟩ := hR j u hu
  obtain rfl : ad = ⟨b, o, none⟩ := Option.some.inj e
  have hadd : (⟨b, o, none⟩ : Addr).add j = ⟨b, o + j, none⟩ := by unfold Addr.add; split <;> simp_all
  rw [hadd]; exact hc) h1 hmax hb hB
 exact ⟨v', w', hr, ho, hg, hat⟩
theorem appN {ops : Array Oper} {rest : List Oper} {o : Oper} {a : Act} {w : World} {Q : Exit → Act → World → Prop} (hgd : o.guard = none) (s x : Operand) (t : TypeId)
 (ho : o.op = .call { callee := .builtin .append, args := #[s, x], argTypes := #[t, t] }) {E : TypeId} {z : Value} {sz by' : Nat} (ht : P.underlying t = some (.slice E))
 (hI : (P.info? E).map (fun i => (i.zero, i.size, i.bytes)) = some (some z, sz, by')) (hz : z.cells.size = sz) (hsz : 0 < sz) (hby : 0 < by')
 {B n : Nat} {v : Value} {xs : List Value} (hO : w.ownsRow B E sz v n xs) (hs : a.eval s = v) {ad : Addr} {m c : Nat} {ys : List Value} (hx : a.eval x = .slice (some ad) m c) (hm : ys.length = m * sz) (hR : Rd w (some ad) ys) (h1 : ∀ u ∈ ys, u.oneCell' = true)
 (hb : (n + m) * by' ≤ 140737488355328) (hB : B ≤ w.heap.size)
 (h : ∀ v' w', w'.ownsRow B E sz v' (n + m) (xs ++ ys) → w.grownBy w' v.ownBlock → (v'.ownBlock = v.ownBlock ∨ v'.ownBlock = some w.heap.size) → wpList P ops Q rest (a.put o.dst v') w') : wpList P ops Q (o :: rest) a w :=
 wpList_plain hgd fun _ hK => by
  obtain ⟨v', w', hr, h2, h3, h4⟩ := run_appN (P := P) w t o.type ht hI hz hsz hby hO (c := c) hm hR h1 hb hB
  unfold Oper.wp execOp
  simp only [ho, resolve, invoke, builtin, Sem.run_bind, Sem.run_pure, Result.andThen_ok, List.map_toArray, List.map_cons, List.map_nil, hs, hx, hr]
  exact hK _ _ (h v' w' h2 h3 h4)
@[irreducible] def cells (l : List (List UInt8)) : List Value := l.flatMap bv
theorem cells_nil : cells [] = [] := by unfold cells; rfl
theorem je_ (a b : List (List UInt8)) : cells (a ++ b) = cells a ++ cells b := by unfold cells; exact List.flatMap_append
theorem cells_one (x : List UInt8) : cells [x] = bv x := by unfold cells; simp
theorem jz_ : ∀ l : List (List UInt8), (∀ x ∈ l, x.length = 32) → (cells l).length = l.length * 32
 | [], _ => by rw [cells_nil]; rfl
 | x :: l, h => by
  rw [show x :: l = [x] ++ l from rfl, je_, cells_one, List.length_append, jy_, jz_ l (fun y hy => h y (by simp [hy])), h x (by simp)]
  simp; omega
theorem cells_oneCell (l : List (List UInt8)) : ∀ u ∈ cells l, u.oneCell' = true := by
 unfold cells
 intro u hu
 obtain ⟨x, _, hx⟩ := List.mem_flatMap.1 hu
 exact bv_cells x u hx
theorem cells_at {l : List (List UInt8)} (h : ∀ x ∈ l, x.length = 32) {j : Nat} {x : List UInt8} (hx : l[j]? = some x) : ∀ i v, (bv x)[i]? = some v → (cells l)[j * 32 + i]? = some v := by
 intro i v hv
 have hj := (List.getElem?_eq_some_iff.1 hx).1
 have e : l = l.take j ++ [x] ++ l.drop (j + 1) := by
  have := List.take_append_drop j l
  rw [List.drop_eq_getElem_cons hj] at this
  rw [← (List.getElem?_eq_some_iff.1 hx).2]
  simp
 have hl : (cells (l.take j)).length = j * 32 := by
  rw [jz_ _ (fun y hy => h y (List.mem_of_mem_take hy)), List.length_take, Nat.min_eq_left (by omega)]
 rw [e, je_, je_, cells_one, List.append_assoc, List.getElem?_append_right (by omega), hl]
 have hi : i < (bv x).length := (List.getElem?_eq_some_iff.1 hv).1
 rw [show j * 32 + i - j * 32 = i by omega, List.getElem?_append_left hi]
 exact hv
def KS (w : World) (v : Value) (l : List (List UInt8)) : Prop := ∃ A c, v = .slice A l.length c ∧ l.length ≤ c ∧ c ≤ maxLen ∧ Rd w A (cells l) ∧ ∀ x ∈ l, x.length = 32
theorem KS.nil (w : World) : KS w (.slice none 0 0) [] := ⟨none, 0, rfl, Nat.le_refl _, Nat.zero_le _, by rw [cells_nil]; exact Rd.nil _ _, fun x h => by simp at h⟩
theorem KS.below {w w' : World} {v : Value} {l : List (List UInt8)} (h : KS w v l) (hb : Below w.heap.size w w') : KS w' v l := by
 obtain ⟨A, c, h1, h2, h3, h4, h5⟩ := h
 exact ⟨A, c, h1, h2, h3, h4.below hb, h5⟩
theorem KS.map {w w' : World} {v : Value} {l : List (List UInt8)} {b : Nat} (h : KS w v l) (hg : w.grownBy w' (some b)) (hm : ∃ es clock, w.heap[b]? = some (.map es clock)) : KS w' v l := by
 obtain ⟨A, c, h1, h2, h3, h4, h5⟩ := h
 refine ⟨A, c, h1, h2, h3, fun j x hx => ?_, h5⟩
 obtain ⟨g, o, e1, e2, e3⟩ := h4 j x hx
 have hne : g ≠ b := by
  rintro rfl
  obtain ⟨es, clock, hm⟩ := hm
  unfold World.cell? at e3
  simp [hm] at e3
 refine ⟨g, o, e1, Nat.lt_of_lt_of_le e2 hg.size, ?_⟩
 have := hg.block g e2 (fun e => hne (Option.some.inj e))
 unfold World.cell? at e3 ⊢
 simp only [this]
 exact e3
theorem KS.own {w : World} {B : Nat} {v : Value} {l : List (List UInt8)} (h : w.ownsRow B 22 32 v l.length (cells l)) (hl : ∀ x ∈ l, x.length = 32) : KS w v l := by
 have h0 := h
 rcases h0.2 with ⟨hv, hn⟩ | ⟨g, cap, cur, hv, _, hg, hc, hm, _⟩
 · have : l = [] := List.eq_nil_of_length_eq_zero hn
   subst this
   rw [hv]; exact KS.nil w
 · refine ⟨_, cap, hv, hc, hm, fun j x hx => ⟨g, 0, rfl, (Array.getElem?_eq_some_iff.1 hg).1, ?_⟩, hl⟩
   have := World.ownsRow.cells h (g := g) (by rw [hv]; rfl) j x hx
   have hadd : (⟨g, 0, none⟩ : Addr).add j = ⟨g, j, none⟩ := by unfold Addr.add; split <;> simp_all
   rw [hadd] at this
   rw [Nat.zero_add]; exact this
theorem infoK : (prog.info? 22).map (fun i => (i.zero, i.size, i.bytes)) = some (some (.agg #[.int .u8 0, .int .u8 0, .int .u8 0, .int .u8 0, .int .u8 0, .int .u8 0, .int .u8 0, .int .u8 0, .int .u8 0, .int .u8 0, .int .u8 0, .int .u8 0, .int .u8 0, .int .u8 0, .int .u8 0, .int .u8 0, .int .u8 0, .int .u8 0, .int .u8 0, .int .u8 0, .int .u8 0, .int .u8 0, .int .u8 0, .int .u8 0, .int .u8 0, .int .u8 0, .int .u8 0, .int .u8 0, .int .u8 0, .int .u8 0, .int .u8 0, .int .u8 0]), 32, 32) := by kernel_rfl
theorem Clone_any (w : World) (v : Value) (l : List (List UInt8)) (h : KS w v l) (hl : l.length ≤ 1000000) :
 Calls prog 51 #[v] w fun e w' => ∃ v', e = .returned v' ∧ w'.ownsRow w.heap.size 22 32 v' l.length (cells l) ∧ Below w.heap.size w w' := by
 obtain ⟨A, c, rfl, hc, hm, hR, hk⟩ := h
 cases A with
 | none =>
  have hl0 : l = [] := by
   cases l with
   | nil => rfl
   | cons x l =>
    have hp : 0 < (cells (x :: l)).length := by rw [jz_ _ hk]; simp
    obtain ⟨b, o, e, _⟩ := hR 0 _ (List.getElem?_eq_getElem hp)
    cases e
  subst hl0
  rw [cells_nil]
  have he := Lib.run_eql_slice_nil (P := prog) w 109 22 none 0 c 0 0 underlying109
  go_enter func51, ntmps51
  go_wp2
  go_ret
  exact ⟨_, rfl, World.ownsRow_nil _ _ _ _, Below.refl _ _⟩
 | some ad =>
  have HR := ϕ hR
  have HN := ϕ (jz_ l hk)
  have HL := ϕ hl
  have he := Lib.run_eql_slice_nil (P := prog) w 109 22 (some ad) l.length c 0 0 underlying109
  have HO := ϕ (show (w.alloc (.cells #[] 22)).ownsRow w.heap.size 22 32 (.slice (some ⟨w.heap.size, 0, none⟩) 0 0) 0 [] from World.ownsRow_lit (base := w.heap.size) (e := 22) (size := 32) w #[] 0 (Nat.le_refl _) (Nat.zero_le _) (by simp))
  have HB := ϕ (show Below w.heap.size w (w.alloc (.cells #[] 22)) from (Below.refl _ _).alloc (Nat.le_refl _) _)
  clear hR hc hm hk hl
  go_enter func51, ntmps51
  go_wp2_with (refine appN rfl _ _ 109 rfl underlying109 infoK rfl (by decide) (by decide) HO.out rfl rfl HN.out (HR.out.below HB.out) (cells_oneCell l) (by have := HL.out; omega) HB.out.size ?_; intro v' w' h2 h3 h4; have H2 := ϕ h2; have H3 := ϕ h3; clear h2 h3 h4)
  go_ret
  refine ⟨_, rfl, ?_, ?_⟩
  · have := H2.out
    rwa [Nat.zero_add, List.nil_append] at this
  · exact HB.out.grown H3.out HB.out.size (fun k hk => by cases hk; exact Nat.le_refl _)
end St
namespace St
open Go.RowKit
theorem get_list (s : ByteArray) (k : Nat) (h : k < s.size) : s.data.toList[k]? = some s[k] := by rw [List.getElem?_eq_getElem (by rw [Array.length_toList]; exact h)]; rfl
theorem empty_of_size {s : ByteArray} (h : s.size = 0) : s = ⟨#[]⟩ := by
 apply ByteArray.ext; apply Array.toList_inj.1
 exact List.eq_nil_of_length_eq_zero (by rw [Array.length_toList]; exact h)
theorem toList_empty {s : ByteArray} (h : s.size = 0) : s.toList = [] := by rw [ByteArray.toList_eq, empty_of_size h]
theorem toList_ne {s : ByteArray} (h : s.size ≠ 0) : s.toList.isEmpty = false := by
 rw [List.isEmpty_eq_false_iff, ByteArray.toList_eq]
 intro e
 have := congrArg List.length e
 rw [Array.length_toList] at this
 exact h this
def letB (x : Nat) : Bool := (decide (97 ≤ x) && decide (x ≤ 122)) || (decide (48 ≤ x) && decide (x ≤ 57))
def okC (n k x : Nat) : Bool := letB x || (decide (x = 45) && decide (0 < k) && decide (k + 1 < n))
def upTo (l : List UInt8) (k : Nat) : Prop := ∀ j x, j < k → l[j]? = some x → okC l.length j x.toNat = true
def validB (l : List UInt8) : Bool := decide (1 ≤ l.length) && decide (l.length ≤ 63) && (List.range l.length).all fun j => okC l.length j (l.getD j 0).toNat
theorem upTo.next {l : List UInt8} {k : Nat} (h : upTo l k) {x : UInt8} (hx : l[k]? = some x) (ho : okC l.length k x.toNat = true) : upTo l (k + 1) := fun j y hj hy => by
 by_cases e : j = k
 · subst e; rw [hx] at hy; cases hy; exact ho
 · exact h j y (by omega) hy
theorem valid_bad {l : List UInt8} {k : Nat} {x : UInt8} (hx : l[k]? = some x) (ho : okC l.length k x.toNat = false) : validB l = false := by
 unfold validB
 rw [Bool.and_eq_false_iff]
 refine .inr (List.all_eq_false.2 ⟨k, List.mem_range.2 (List.getElem?_eq_some_iff.1 hx).1, ?_⟩)
 rw [List.getD_eq_getElem?_getD, hx]
 simpa using ho
theorem valid_all {l : List UInt8} (h : upTo l l.length) (h1 : 1 ≤ l.length) (h2 : l.length ≤ 63) : validB l = true := by
 unfold validB
 rw [decide_eq_true h1, decide_eq_true h2, Bool.true_and, Bool.true_and]
 refine List.all_eq_true.2 fun j hj => ?_
 have hj := List.mem_range.1 hj
 have e := List.getElem?_eq_getElem hj
 rw [List.getD_eq_getElem?_getD, e]
 exact h j _ hj e
theorem valid_len {l : List UInt8} (h : ¬ (1 ≤ l.length ∧ l.length ≤ 63)) : validB l = false := by
 unfold validB
 rw [Bool.and_eq_false_iff, Bool.and_eq_false_iff]
 by_cases h1 : 1 ≤ l.length
 · exact .inl (.inr (decide_eq_false (fun e => h ⟨h1, e⟩)))
 · exact .inl (.inl (decide_eq_false h1))
theorem ok_let {n k x : Nat} (h : letB x = true) : okC n k x = true := by unfold okC; rw [h]; rfl
theorem ok_45 {n k x : Nat} (h : x = 45) (h1 : 0 < k) (h2 : k + 1 < n) : okC n k x = true := by unfold okC; rw [decide_eq_true h, decide_eq_true h1, decide_eq_true h2]; simp
theorem bad_45 {n k x : Nat} (h : letB x = false) (h1 : ¬ (0 < k ∧ k + 1 < n)) : okC n k x = false := by
 unfold okC
 rw [h]
 by_cases h0 : 0 < k
 · rw [decide_eq_false (show ¬ k + 1 < n from fun e => h1 ⟨h0, e⟩)]; simp
 · rw [decide_eq_false h0]; simp
theorem bad_other {n k x : Nat} (h : letB x = false) (h1 : x ≠ 45) : okC n k x = false := by unfold okC; rw [h, decide_eq_false h1]; rfl
theorem letter_any (w : World) (x : Nat) (hx : x < 256) : Calls prog 125 #[.int .u8 (x : Int)] w fun e w' => e = .returned (.bool (letB x)) ∧ w = w' := by
 have hcl : (97 ≤ x ∧ x ≤ 122) ∨ 122 < x ∨ (57 < x ∧ x < 97) ∨ (48 ≤ x ∧ x ≤ 57) ∨ x < 48 := by omega
 rcases hcl with hc | hc | hc | hc | hc
 · have HV := ϕ (show letB x = true by unfold letB; simp; omega)
   have ha1 : decide ((97 : Int) ≤ (x : Int)) = true := by rw [decide_eq_true_iff]; omega
   have ha2 : decide ((x : Int) ≤ 122) = true := by rw [decide_eq_true_iff]; omega
   have ha3 : decide ((48 : Int) ≤ (x : Int)) = true := by rw [decide_eq_true_iff]; omega
   have ha4 : decide ((x : Int) ≤ 57) = false := by rw [decide_eq_false_iff_not]; omega
   clear hc
   go_enter func125, ntmps125
   go_wp2
   go_ret
   exact ⟨by rw [HV.out]; rfl, rfl⟩
 · have HV := ϕ (show letB x = false by unfold letB; simp; omega)
   have ha1 : decide ((97 : Int) ≤ (x : Int)) = true := by rw [decide_eq_true_iff]; omega
   have ha2 : decide ((x : Int) ≤ 122) = false := by rw [decide_eq_false_iff_not]; omega
   have ha3 : decide ((48 : Int) ≤ (x : Int)) = true := by rw [decide_eq_true_iff]; omega
   have ha4 : decide ((x : Int) ≤ 57) = false := by rw [decide_eq_false_iff_not]; omega
   clear hc
   go_enter func125, ntmps125
   go_wp2
   go_ret
   exact ⟨by rw [HV.out]; rfl, rfl⟩
 · have HV := ϕ (show letB x = false by unfold letB; simp; omega)
   have ha1 : decide ((97 : Int) ≤ (x : Int)) = false := by rw [decide_eq_false_iff_not]; omega
   have ha2 : decide ((x : Int) ≤ 122) = true := by rw [decide_eq_true_iff]; omega
   have ha3 : decide ((48 : Int) ≤ (x : Int)) = true := by rw [decide_eq_true_iff]; omega
   have ha4 : decide ((x : Int) ≤ 57) = false := by rw [decide_eq_false_iff_not]; omega
   clear hc
   go_enter func125, ntmps125
   go_wp2
   go_ret
   exact ⟨by rw [HV.out]; rfl, rfl⟩
 · have HV := ϕ (show letB x = true by unfold letB; simp; omega)
   have ha1 : decide ((97 : Int) ≤ (x : Int)) = false := by rw [decide_eq_false_iff_not]; omega
   have ha2 : decide ((x : Int) ≤ 122) = true := by rw [decide_eq_true_iff]; omega
   have ha3 : decide ((48 : Int) ≤ (x : Int)) = true := by rw [decide_eq_true_iff]; omega
   have ha4 : decide ((x : Int) ≤ 57) = true := by rw [decide_eq_true_iff]; omega
   clear hc
   go_enter func125, ntmps125
   go_wp2
   go_ret
   exact ⟨by rw [HV.out]; rfl, rfl⟩
 · have HV := ϕ (show letB x = false by unfold letB; simp; omega)
   have ha1 : decide ((97 : Int) ≤ (x : Int)) = false := by rw [decide_eq_false_iff_not]; omega
   have ha2 : decide ((x : Int) ≤ 122) = true := by rw [decide_eq_true_iff]; omega
   have ha3 : decide ((48 : Int) ≤ (x : Int)) = false := by rw [decide_eq_false_iff_not]; omega
   have ha4 : decide ((x : Int) ≤ 57) = true := by rw [decide_eq_true_iff]; omega
   clear hc
   go_enter func125, ntmps125
   go_wp2
   go_ret
   exact ⟨by rw [HV.out]; rfl, rfl⟩
theorem Valid_any (w : World) (s : ByteArray) (hs : s.size ≤ 1000000) :
 Calls prog 88 #[.string s] w fun e w' => e = .returned (.bool (validB s.data.toList)) ∧ w = w' := by
 have HL := ϕ (show s.data.toList.length = s.size from Array.length_toList)
 by_cases h0 : s.size = 0
 · have hl := toList_empty h0
   have hl2 : s.toList.isEmpty = true := by rw [hl]; rfl
   have HV := ϕ (show validB s.data.toList = false from valid_len (by rw [HL.out]; omega))
   clear h0
   go_enter func88, ntmps88
   go_wp2
   go_ret
   exact ⟨by rw [HV.out]; rfl, rfl⟩
 · have hl2 := toList_ne h0
   by_cases h63 : s.size ≤ 63
   · have hd63 : decide ((63 : Int) < (s.size : Int)) = false := by rw [decide_eq_false_iff_not]; omega
     go_enter func88, ntmps88
     go_wp2
     go_loop [14] (fun i => ∃ k : Nat, k ≤ s.size ∧ i = .int .i64 k ∧ upTo s.data.toList k) (fun i => s.size - (intOf i).toNat)
     case atStart => exact ⟨0, Nat.zero_le _, rfl, fun j x hj => by omega⟩
     case round =>
      obtain ⟨k, hk, rfl, hup⟩ := hrel
      by_cases hlt : k < s.size
      · have hik : (k : Int) < s.size := by omega
        have hdl : decide ((k : Int) < (s.size : Int)) = true := by rw [decide_eq_true_iff]; omega
        have HX := ϕ (get_list s k hlt)
        have HLT := ϕ (show ∀ W : World, Calls prog 125 #[.int .u8 (s[k].toNat : Int)] W fun e w' => e = .returned (.bool (letB s[k].toNat)) ∧ W = w' from fun W => letter_any W _ s[k].toNat_lt)
        have hcl : letB s[k].toNat = true ∨ (letB s[k].toNat = false ∧ s[k].toNat = 45) ∨ (letB s[k].toNat = false ∧ s[k].toNat ≠ 45) := by cases letB s[k].toNat with | true => exact .inl rfl | false => (by_cases h : s[k].toNat = 45; exact .inr (.inl ⟨rfl, h⟩); exact .inr (.inr ⟨rfl, h⟩))
        rcases hcl with hc | ⟨hc, h45⟩ | ⟨hc, h45⟩
        · rw [hc] at HLT
          have hkk : (k = 0 ∧ ¬ k + 1 < s.size) ∨ (k = 0 ∧ k + 1 < s.size) ∨ (0 < k ∧ ¬ k + 1 < s.size) ∨ (0 < k ∧ k + 1 < s.size) := by omega
          rcases hkk with hkc | hkc | hkc | hkc
          · have HN := ϕ (hup.next HX.out (show okC s.data.toList.length k s[k].toNat = true by rw [HL.out]; exact ok_let hc))
            have hk0 : decide ((0 : Int) < (k : Int)) = false := by rw [decide_eq_false_iff_not]; omega
            have hk0n : decide (0 < k) = false := by rw [decide_eq_false_iff_not]; omega
            have hk0p : ¬ 0 < k := by omega
            have hk1 : decide ((k : Int) < (s.size : Int) - 1) = false := by rw [decide_eq_false_iff_not]; omega
            have hk2 : decide ((k : Int) + 1 < (s.size : Int)) = false := by rw [decide_eq_false_iff_not]; omega
            clear hkc hc
            go_wp2_with (go_at_call 125; refine (HLT.out _).mono ?_; rintro e w1 ⟨rfl, rfl⟩; skip)
            try go_round
            all_goals first
             | exact ⟨k + 1, by omega, by go_num, HN.out⟩
             | ((repeat apply Exists.intro); refine ⟨?_, rfl⟩; exact ⟨k + 1, by omega, by go_num, HN.out⟩)
             | exact ⟨⟨k + 1, by omega, by go_num, HN.out⟩, by simp [intOf]; omega⟩
             | (simp [intOf]; done)
             | (simp [intOf]; omega)
          · have HN := ϕ (hup.next HX.out (show okC s.data.toList.length k s[k].toNat = true by rw [HL.out]; exact ok_let hc))
            have hk0 : decide ((0 : Int) < (k : Int)) = false := by rw [decide_eq_false_iff_not]; omega
            have hk0n : decide (0 < k) = false := by rw [decide_eq_false_iff_not]; omega
            have hk0p : ¬ 0 < k := by omega
            have hk1 : decide ((k : Int) < (s.size : Int) - 1) = true := by rw [decide_eq_true_iff]; omega
            have hk2 : decide ((k : Int) + 1 < (s.size : Int)) = true := by rw [decide_eq_true_iff]; omega
            clear hkc hc
            go_wp2_with (go_at_call 125; refine (HLT.out _).mono ?_; rintro e w1 ⟨rfl, rfl⟩; skip)
            try go_round
            all_goals first
             | exact ⟨k + 1, by omega, by go_num, HN.out⟩
             | ((repeat apply Exists.intro); refine ⟨?_, rfl⟩; exact ⟨k + 1, by omega, by go_num, HN.out⟩)
             | exact ⟨⟨k + 1, by omega, by go_num, HN.out⟩, by simp [intOf]; omega⟩
             | (simp [intOf]; done)
             | (simp [intOf]; omega)
          · have HN := ϕ (hup.next HX.out (show okC s.data.toList.length k s[k].toNat = true by rw [HL.out]; exact ok_let hc))
            have hk0 : decide ((0 : Int) < (k : Int)) = true := by rw [decide_eq_true_iff]; omega
            have hk0n : decide (0 < k) = true := by rw [decide_eq_true_iff]; omega
            have hk0p : 0 < k := hkc.1
            have hk1 : decide ((k : Int) < (s.size : Int) - 1) = false := by rw [decide_eq_false_iff_not]; omega
            have hk2 : decide ((k : Int) + 1 < (s.size : Int)) = false := by rw [decide_eq_false_iff_not]; omega
            clear hkc hc
            go_wp2_with (go_at_call 125; refine (HLT.out _).mono ?_; rintro e w1 ⟨rfl, rfl⟩; skip)
            try go_round
            all_goals first
             | exact ⟨k + 1, by omega, by go_num, HN.out⟩
             | ((repeat apply Exists.intro); refine ⟨?_, rfl⟩; exact ⟨k + 1, by omega, by go_num, HN.out⟩)
             | exact ⟨⟨k + 1, by omega, by go_num, HN.out⟩, by simp [intOf]; omega⟩
             | (simp [intOf]; done)
             | (simp [intOf]; omega)
          · have HN := ϕ (hup.next HX.out (show okC s.data.toList.length k s[k].toNat = true by rw [HL.out]; exact ok_let hc))
            have hk0 : decide ((0 : Int) < (k : Int)) = true := by rw [decide_eq_true_iff]; omega
            have hk0n : decide (0 < k) = true := by rw [decide_eq_true_iff]; omega
            have hk0p : 0 < k := hkc.1
            have hk1 : decide ((k : Int) < (s.size : Int) - 1) = true := by rw [decide_eq_true_iff]; omega
            have hk2 : decide ((k : Int) + 1 < (s.size : Int)) = true := by rw [decide_eq_true_iff]; omega
            clear hkc hc
            go_wp2_with (go_at_call 125; refine (HLT.out _).mono ?_; rintro e w1 ⟨rfl, rfl⟩; skip)
            try go_round
            all_goals first
             | exact ⟨k + 1, by omega, by go_num, HN.out⟩
             | ((repeat apply Exists.intro); refine ⟨?_, rfl⟩; exact ⟨k + 1, by omega, by go_num, HN.out⟩)
             | exact ⟨⟨k + 1, by omega, by go_num, HN.out⟩, by simp [intOf]; omega⟩
             | (simp [intOf]; done)
             | (simp [intOf]; omega)
        · rw [hc] at HLT
          have heN : ((s[k].toNat : Int) != 45) = false := by rw [bne_eq_false_iff_eq]; omega
          have he : ((s[k].toNat : Int) == 45) = true := by rw [beq_iff_eq]; omega
          have hkk : (k = 0 ∧ ¬ k + 1 < s.size) ∨ (k = 0 ∧ k + 1 < s.size) ∨ (0 < k ∧ ¬ k + 1 < s.size) ∨ (0 < k ∧ k + 1 < s.size) := by omega
          rcases hkk with hkc | hkc | hkc | hkc
          · have HV := ϕ (valid_bad HX.out (show okC s.data.toList.length k s[k].toNat = false by rw [HL.out]; exact bad_45 hc (by omega)))
            have hk0 : decide ((0 : Int) < (k : Int)) = false := by rw [decide_eq_false_iff_not]; omega
            have hk0n : decide (0 < k) = false := by rw [decide_eq_false_iff_not]; omega
            have hk0p : ¬ 0 < k := by omega
            have hk1 : decide ((k : Int) < (s.size : Int) - 1) = false := by rw [decide_eq_false_iff_not]; omega
            have hk2 : decide ((k : Int) + 1 < (s.size : Int)) = false := by rw [decide_eq_false_iff_not]; omega
            clear hkc hc h45
            go_wp2_with (go_at_call 125; refine (HLT.out _).mono ?_; rintro e w1 ⟨rfl, rfl⟩; skip)
            all_goals (go_ret; exact ⟨by rw [HV.out]; rfl, rfl⟩)
          · have HV := ϕ (valid_bad HX.out (show okC s.data.toList.length k s[k].toNat = false by rw [HL.out]; exact bad_45 hc (by omega)))
            have hk0 : decide ((0 : Int) < (k : Int)) = false := by rw [decide_eq_false_iff_not]; omega
            have hk0n : decide (0 < k) = false := by rw [decide_eq_false_iff_not]; omega
            have hk0p : ¬ 0 < k := by omega
            have hk1 : decide ((k : Int) < (s.size : Int) - 1) = true := by rw [decide_eq_true_iff]; omega
            have hk2 : decide ((k : Int) + 1 < (s.size : Int)) = true := by rw [decide_eq_true_iff]; omega
            clear hkc hc h45
            go_wp2_with (go_at_call 125; refine (HLT.out _).mono ?_; rintro e w1 ⟨rfl, rfl⟩; skip)
            all_goals (go_ret; exact ⟨by rw [HV.out]; rfl, rfl⟩)
          · have HV := ϕ (valid_bad HX.out (show okC s.data.toList.length k s[k].toNat = false by rw [HL.out]; exact bad_45 hc (by omega)))
            have hk0 : decide ((0 : Int) < (k : Int)) = true := by rw [decide_eq_true_iff]; omega
            have hk0n : decide (0 < k) = true := by rw [decide_eq_true_iff]; omega
            have hk0p : 0 < k := hkc.1
            have hk1 : decide ((k : Int) < (s.size : Int) - 1) = false := by rw [decide_eq_false_iff_not]; omega
            have hk2 : decide ((k : Int) + 1 < (s.size : Int)) = false := by rw [decide_eq_false_iff_not]; omega
            clear hkc hc h45
            go_wp2_with (go_at_call 125; refine (HLT.out _).mono ?_; rintro e w1 ⟨rfl, rfl⟩; skip)
            all_goals (go_ret; exact ⟨by rw [HV.out]; rfl, rfl⟩)
          · have HN := ϕ (hup.next HX.out (show okC s.data.toList.length k s[k].toNat = true by rw [HL.out]; exact ok_45 h45 hkc.1 hkc.2))
            have hk0 : decide ((0 : Int) < (k : Int)) = true := by rw [decide_eq_true_iff]; omega
            have hk0n : decide (0 < k) = true := by rw [decide_eq_true_iff]; omega
            have hk0p : 0 < k := hkc.1
            have hk1 : decide ((k : Int) < (s.size : Int) - 1) = true := by rw [decide_eq_true_iff]; omega
            have hk2 : decide ((k : Int) + 1 < (s.size : Int)) = true := by rw [decide_eq_true_iff]; omega
            clear hkc hc h45
            go_wp2_with (go_at_call 125; refine (HLT.out _).mono ?_; rintro e w1 ⟨rfl, rfl⟩; skip)
            try go_round
            all_goals first
             | exact ⟨k + 1, by omega, by go_num, HN.out⟩
             | ((repeat apply Exists.intro); refine ⟨?_, rfl⟩; exact ⟨k + 1, by omega, by go_num, HN.out⟩)
             | exact ⟨⟨k + 1, by omega, by go_num, HN.out⟩, by simp [intOf]; omega⟩
             | (simp [intOf]; done)
             | (simp [intOf]; omega)
        · rw [hc] at HLT
          have heN : ((s[k].toNat : Int) != 45) = true := by rw [bne_iff_ne]; omega
          have he : ((s[k].toNat : Int) == 45) = false := by rw [beq_eq_false_iff_ne]; omega
          have hkk : (k = 0 ∧ ¬ k + 1 < s.size) ∨ (k = 0 ∧ k + 1 < s.size) ∨ (0 < k ∧ ¬ k + 1 < s.size) ∨ (0 < k ∧ k + 1 < s.size) := by omega
          rcases hkk with hkc | hkc | hkc | hkc
          · have HV := ϕ (valid_bad HX.out (show okC s.data.toList.length k s[k].toNat = false by rw [HL.out]; exact bad_other hc h45))
            have hk0 : decide ((0 : Int) < (k : Int)) = false := by rw [decide_eq_false_iff_not]; omega
            have hk0n : decide (0 < k) = false := by rw [decide_eq_false_iff_not]; omega
            have hk0p : ¬ 0 < k := by omega
            have hk1 : decide ((k : Int) < (s.size : Int) - 1) = false := by rw [decide_eq_false_iff_not]; omega
            have hk2 : decide ((k : Int) + 1 < (s.size : Int)) = false := by rw [decide_eq_false_iff_not]; omega
            clear hkc hc h45
            go_wp2_with (go_at_call 125; refine (HLT.out _).mono ?_; rintro e w1 ⟨rfl, rfl⟩; skip)
            all_goals (go_ret; exact ⟨by rw [HV.out]; rfl, rfl⟩)
          · have HV := ϕ (valid_bad HX.out (show okC s.data.toList.length k s[k].toNat = false by rw [HL.out]; exact bad_other hc h45))
            have hk0 : decide ((0 : Int) < (k : Int)) = false := by rw [decide_eq_false_iff_not]; omega
            have hk0n : decide (0 < k) = false := by rw [decide_eq_false_iff_not]; omega
            have hk0p : ¬ 0 < k := by omega
            have hk1 : decide ((k : Int) < (s.size : Int) - 1) = true := by rw [decide_eq_true_iff]; omega
            have hk2 : decide ((k : Int) + 1 < (s.size : Int)) = true := by rw [decide_eq_true_iff]; omega
            clear hkc hc h45
            go_wp2_with (go_at_call 125; refine (HLT.out _).mono ?_; rintro e w1 ⟨rfl, rfl⟩; skip)
            all_goals (go_ret; exact ⟨by rw [HV.out]; rfl, rfl⟩)
          · have HV := ϕ (valid_bad HX.out (show okC s.data.toList.length k s[k].toNat = false by rw [HL.out]; exact bad_other hc h45))
            have hk0 : decide ((0 : Int) < (k : Int)) = true := by rw [decide_eq_true_iff]; omega
            have hk0n : decide (0 < k) = true := by rw [decide_eq_true_iff]; omega
            have hk0p : 0 < k := hkc.1
            have hk1 : decide ((k : Int) < (s.size : Int) - 1) = false := by rw [decide_eq_false_iff_not]; omega
            have hk2 : decide ((k : Int) + 1 < (s.size : Int)) = false := by rw [decide_eq_false_iff_not]; omega
            clear hkc hc h45
            go_wp2_with (go_at_call 125; refine (HLT.out _).mono ?_; rintro e w1 ⟨rfl, rfl⟩; skip)
            all_goals (go_ret; exact ⟨by rw [HV.out]; rfl, rfl⟩)
          · have HV := ϕ (valid_bad HX.out (show okC s.data.toList.length k s[k].toNat = false by rw [HL.out]; exact bad_other hc h45))
            have hk0 : decide ((0 : Int) < (k : Int)) = true := by rw [decide_eq_true_iff]; omega
            have hk0n : decide (0 < k) = true := by rw [decide_eq_true_iff]; omega
            have hk0p : 0 < k := hkc.1
            have hk1 : decide ((k : Int) < (s.size : Int) - 1) = true := by rw [decide_eq_true_iff]; omega
            have hk2 : decide ((k : Int) + 1 < (s.size : Int)) = true := by rw [decide_eq_true_iff]; omega
            clear hkc hc h45
            go_wp2_with (go_at_call 125; refine (HLT.out _).mono ?_; rintro e w1 ⟨rfl, rfl⟩; skip)
            all_goals (go_ret; exact ⟨by rw [HV.out]; rfl, rfl⟩)
      · obtain rfl : k = s.size := by omega
        have HV := ϕ (show validB s.data.toList = true from valid_all (by rw [HL.out]; exact hup) (by rw [HL.out]; omega) (by rw [HL.out]; exact h63))
        clear h0 h63 hup
        go_wp2
        go_ret
        exact ⟨by rw [HV.out]; rfl, rfl⟩
   · have hd63 : decide ((63 : Int) < (s.size : Int)) = true := by rw [decide_eq_true_iff]; omega
     have HV := ϕ (show validB s.data.toList = false from valid_len (by rw [HL.out]; omega))
     clear h0 h63
     go_enter func88, ntmps88
     go_wp2
     go_ret
     exact ⟨by rw [HV.out]; rfl, rfl⟩
end St
namespace Cv
open Go.RowKit
variable {P : Program}
theorem run_part_byte (w : World) (e : TypeId) (he : P.underlying e = some (.int .u8)) (cs : Array Value) (j : Nat) (v : Value) (h : cs[j]? = some v) : (part e cs j).run P w = .ok v w := by
 unfold part isAgg
 simp [Sem.run_bind, run_underlying he, h]
theorem run_eqItems_bytes (w : World) (e : TypeId) (he : P.underlying e = some (.int .u8)) (hc : P.cellsOf e = 1) (d : Nat) (a b : List UInt8) (hl : a.length = b.length) : ∀ (m j : Nat), j + m = a.length →
 (Op.eqItems (d + 1) e (P.cellsOf e) (bytesV a) (bytesV b) (List.range' j m)).run P w = .ok (a.drop j == b.drop j) w
 | 0, j, h => by
  rw [List.drop_eq_nil_of_le (by omega), List.drop_eq_nil_of_le (by omega)]
  simp [Op.eqItems]
 | m + 1, j, h => by
  have ha : a[j]? = some (a[j]'(by omega)) := List.getElem?_eq_getElem _
  have hb : b[j]? = some (b[j]'(by omega)) := List.getElem?_eq_getElem _
  rw [List.range'_succ]
  simp only [Op.eqItems, Sem.run_bind, hc, Nat.mul_one, run_part_byte (P := P) w e he _ _ _ (qz_ a j _ ha), run_part_byte (P := P) w e he _ _ _ (qz_ b j _ hb), Result.andThen_ok,
   run_equalIn_int (P := P) w d e .u8 .u8 _ _ he]
  have ih := run_eqItems_bytes w e he hc d a b hl m (j + 1) (by omega)
  rw [hc] at ih
  rw [List.drop_eq_getElem_cons (i := j) (l := a) (by omega), List.drop_eq_getElem_cons (i := j) (l := b) (by omega)]
  by_cases h1 : a[j] = b[j]
  · have e0 : ∀ (x : UInt8) (l l' : List UInt8), ((x :: l) == (x :: l')) = (l == l') := fun x l l' => by simp [List.cons_beq_cons]
    rw [h1, e0]
    simp only [beq_self_eq_true, Bool.not_true, Bool.false_eq_true, if_false]
    exact ih
  · have h2 : ((((a[j]'(by omega)).toNat : Int)) == (((b[j]'(by omega)).toNat : Int))) = false := by
     simp only [beq_eq_false_iff_ne, ne_eq, Int.natCast_inj]
     exact fun e => h1 (UInt8.toNat_inj.1 e)
    have e0 : ((a[j]'(by omega) :: a.drop (j + 1)) == (b[j]'(by omega) :: b.drop (j + 1))) = false := by
     rw [beq_eq_false_iff_ne]; intro e; exact h1 (List.cons.inj e).1
    rw [h2, e0]
    simp
theorem run_equal_bytes (w : World) (t e : TypeId) (n : Nat) (hu : P.underlying t = some (.array n e)) (he : P.underlying e = some (.int .u8)) (hi : (P.info? e).map (fun i => (i.zero, i.size, i.bytes)) = some (some (.int .u8 0), 1, 1))
 (a b : List UInt8) (ha : a.length = n) (hb : b.length = n) : (Op.equal t (.agg (bytesV a)) (.agg (bytesV b))).run P w = .ok (a == b) w := by
 obtain ⟨i, hi0, hz0, hz1, hz2⟩ := info_parts hi
 have hc : P.cellsOf e = 1 := by unfold Program.cellsOf; simp [hi0, hz1]
 unfold Op.equal Op.maxDepth
 rw [show (10000 : Nat) = 9999 + 1 from rfl, run_equalIn_array (P := P) w 9999 (bytesV a) (bytesV b) hu hi0, List.range_eq_range', show (9999 : Nat) = 9998 + 1 from rfl,
  run_eqItems_bytes (P := P) w e he hc 9998 a b (by omega) n 0 (by omega)]
 simp
theorem jm_ (w : World) (t e : TypeId) (n : Nat) (hu : P.underlying t = some (.array n e)) (he : P.underlying e = some (.int .u8)) (hi : (P.info? e).map (fun i => (i.zero, i.size, i.bytes)) = some (some (.int .u8 0), 1, 1))
 (a b : List UInt8) (ha : a.length = n) (hb : b.length = n) : (Op.equalIn 10000 t (.agg (bytesV a)) (.agg (bytesV b))).run P w = .ok (a == b) w := run_equal_bytes (P := P) w t e n hu he hi a b ha hb
theorem run_eql_bytes (w : World) (t e : TypeId) (n : Nat) (hu : P.underlying t = some (.array n e)) (he : P.underlying e = some (.int .u8)) (hi : (P.info? e).map (fun i => (i.zero, i.size, i.bytes)) = some (some (.int .u8 0), 1, 1))
 (a b : List UInt8) (ha : a.length = n) (hb : b.length = n) : (binOp .eql t (.agg (bytesV a)) (.agg (bytesV b))).run P w = .ok (.bool (a == b)) w := by
 simp only [binOp]
 simp [run_equal_bytes (P := P) w t e n hu he hi a b ha hb]
theorem run_equalIn_self (w : World) (t e : TypeId) (n : Nat) (hu : P.underlying t = some (.array n e)) (he : P.underlying e = some (.int .u8)) (hi : (P.info? e).map (fun i => (i.zero, i.size, i.bytes)) = some (some (.int .u8 0), 1, 1))
 (a : List UInt8) (ha : a.length = n) : (Op.equalIn 10000 t (.agg (bytesV a)) (.agg (bytesV a))).run P w = .ok true w := by
 rw [jm_ (P := P) w t e n hu he hi a a ha ha]; simp
end Cv
namespace Mp
open Go.RowKit Go.Maps
def raw : Value → Option (DataW Value × List MemPlace) := fun v => some (.held v, [])
def RMap (P : Program) (w : World) (k : TypeId) (b n : Nat) (f : Lit → Option Value) (s : Nat) : Prop :=
 ∃ D : DataW Value, w.ownsMap P k raw b n D ∧ Maps.size D = s ∧ ∀ kl, (f kl = none ∧ Maps.has D kl = false) ∨ ∃ v, f kl = some v ∧ Maps.has D kl = true ∧ ∀ z, D.atKey kl z = .held v
section
variable {P : Program} {w w' : World} {k t e : TypeId} {b n s : Nat} {f : Lit → Option Value}
theorem RMap.made (w : World) (P : Program) (k : TypeId) : RMap P (w.alloc (.map #[] 0)) k w.heap.size 0 (fun _ => none) 0 :=
 ⟨.map [], World.ownsMap_made w P k raw, rfl, fun _ => .inl ⟨rfl, rfl⟩⟩
theorem RMap.lt (h : RMap P w k b n f s) : b < w.heap.size := by obtain ⟨D, h, _⟩ := h; exact h.lt
theorem RMap.ext {g : Lit → Option Value} (h : RMap P w k b n f s) (hg : ∀ x, g x = f x) : RMap P w k b n g s := by
 obtain ⟨D, h1, h2, h3⟩ := h
 exact ⟨D, h1, h2, fun kl => by rw [hg]; exact h3 kl⟩
theorem RMap.mono (h : RMap P w k b n f s) {n' : Nat} (hn : n ≤ n') : RMap P w k b n' f s := by
 obtain ⟨D, h1, h2⟩ := h
 exact ⟨D, h1.mono hn, h2⟩
theorem RMap.keep (h : RMap P w k b n f s) (hk : w'.heap[b]? = w.heap[b]?) : RMap P w' k b n f s := by
 obtain ⟨D, ⟨es, clock, hb, F, hs, hD⟩, h2⟩ := h
 exact ⟨D, ⟨es, clock, hk.trans hb, F, hs, hD⟩, h2⟩
theorem RMap.below (h : RMap P w k b n f s) {B : Nat} (hb : Below B w w') (hB : b < B) : RMap P w' k b n f s := h.keep (hb.block b hB)
theorem RMap.ne (h : RMap P w k b n f s) {g T : Nat} {cs : Array Value} {fz : Nat × Nat} (hg : w.heap[g]? = some (.cells cs T fz)) : g ≠ b := by
 rintro rfl
 obtain ⟨D, ⟨es, clock, hb, _⟩, _⟩ := h
 rw [hb] at hg
 cases hg
theorem RMap.look (h : RMap P w k b n f s) (K : Keyed P k) (ht : P.underlying t = some (.map k e)) {z : Value} (hz : (zeroValue e).run P w = .ok z w) {key : Value} {kl : Lit} (hkey : keyOf P k key = some kl) :
 (Instr.lookup t (.map (some b)) key false).run P w = .ok ((f kl).getD z) w := by
 obtain ⟨D, hD, _, hf⟩ := h
 obtain ⟨v, ps, hrun, hv⟩ := hD.lookup K ht hz (zd := .held z) (zp := []) rfl hkey
 rw [hrun]
 unfold raw at hv
 simp only [Option.some.injEq, Prod.mk.injEq] at hv
 rcases hf kl with ⟨h1, h2⟩ | ⟨y, h1, _, h3⟩
 · rw [atKey_of_not_has h2] at hv
   injection hv.1 with hv
   rw [h1, hv]; rfl
 · rw [h3] at hv
   injection hv.1 with hv
   rw [h1, hv]; rfl
theorem RMap.lookOk (h : RMap P w k b n f s) (K : Keyed P k) (ht : P.underlying t = some (.map k e)) {z : Value} (hz : (zeroValue e).run P w = .ok z w) {key : Value} {kl : Lit} (hkey : keyOf P k key = some kl) :
 (Instr.lookup t (.map (some b)) key true).run P w = .ok (.tuple #[(f kl).getD z, .bool (f kl).isSome]) w := by
 obtain ⟨D, hD, _, hf⟩ := h
 obtain ⟨v, ps, hrun, hv⟩ := hD.look_ok K ht hz (zd := .held z) (zp := []) rfl hkey
 rw [hrun]
 unfold raw at hv
 simp only [Option.some.injEq, Prod.mk.injEq] at hv
 rcases hf kl with ⟨h1, h2⟩ | ⟨y, h1, h2, h3⟩
 · rw [atKey_of_not_has h2] at hv
   injection hv.1 with hv
   rw [h1, hv, h2]; rfl
 · rw [h3] at hv
   injection hv.1 with hv
   rw [h1, hv, h2]; rfl
theorem RMap.len (h : RMap P w k b n f s) (ht : P.underlying t = some (.map k e)) (ty : TypeId) : (Builtin.len_ #[t] ty #[.map (some b)]).run P w = .ok (.int .i64 s) w := by
 obtain ⟨D, hD, rfl, _⟩ := h
 exact hD.len ht ty
open Classical in
noncomputable def upd (f : Lit → Option Value) (kl : Lit) (v : Option Value) : Lit → Option Value := fun x => if x = kl then v else f x
theorem upd_same (f : Lit → Option Value) (kl : Lit) (v : Option Value) : upd f kl v kl = v := by unfold upd; exact if_pos rfl
theorem jx_ (f : Lit → Option Value) {kl x : Lit} (v : Option Value) (h : x ≠ kl) : upd f kl v x = f x := by unfold upd; exact if_neg h
theorem RMap.store (h : RMap P w k b n f s) (K : Keyed P k) (ht : P.underlying t = some (.map k e)) (hn : n < maxLen) {key val : Value} {kl : Lit} (hkey : keyOf P k key = some kl) :
 ∃ w', (Instr.mapUpdate t (.map (some b)) key val).run P w = .ok () w' ∧ RMap P w' k b (n + 1) (upd f kl (some val)) (if (f kl).isSome then s else s + 1) ∧ w.grownBy w' (some b) := by
 obtain ⟨D, hD, rfl, hf⟩ := h
 obtain ⟨w', hrun, h1, h2⟩ := hD.store K ht hn (val := val) (d := .held val) (ps := []) hkey rfl
 refine ⟨w', hrun, ⟨_, h1, ?_, fun x => ?_⟩, h2.grown⟩
 · rw [size_put (hD.tidy K)]
   rcases hf kl with ⟨e1, e2⟩ | ⟨v, e1, e2, _⟩
   · rw [e1, e2]; rfl
   · rw [e1, e2]; rfl
 · by_cases hx : x = kl
   · subst hx
     exact .inr ⟨val, upd_same _ _ _, has_put_same hD.isMap (K.key hkey) _, fun z => atKey_put_same hD.isMap (K.key hkey) _ z⟩
   · rw [jx_ f _ hx]
     rcases hf x with ⟨e1, e2⟩ | ⟨v, e1, e2, e3⟩
     · exact .inl ⟨e1, by rw [has_put_other hx]; exact e2⟩
     · exact .inr ⟨v, e1, by rw [has_put_other hx]; exact e2, fun z => by rw [atKey_put_other hx]; exact e3 z⟩
theorem RMap.drop (h : RMap P w k b n f s) (K : Keyed P k) (ht : P.underlying t = some (.map k e)) {key : Value} {kl : Lit} (hkey : keyOf P k key = some kl) (ty : TypeId) :
 ∃ w', (Builtin.delete_ #[t, k] ty #[.map (some b), key]).run P w = .ok (.tuple #[]) w' ∧ RMap P w' k b n (upd f kl none) (if (f kl).isSome then s - 1 else s) ∧ w.grownBy w' (some b) := by
 obtain ⟨D, hD, rfl, hf⟩ := h
 obtain ⟨w', hrun, h1, h2⟩ := hD.drop K ht hkey ty
 refine ⟨w', hrun, ⟨_, h1, ?_, fun x => ?_⟩, h2.grown⟩
 · have hs := size_del (k := kl) (hD.tidy K)
   rcases hf kl with ⟨e1, e2⟩ | ⟨v, e1, e2, _⟩
   · rw [e2] at hs; rw [e1]; simpa using hs
   · rw [e2] at hs; rw [e1]; simp only [if_true] at hs; simp only [Option.isSome_some, if_true]; omega
 · by_cases hx : x = kl
   · subst hx
     exact .inl ⟨upd_same _ _ _, has_del_same⟩
   · rw [jx_ f _ hx]
     rcases hf x with ⟨e1, e2⟩ | ⟨v, e1, e2, e3⟩
     · exact .inl ⟨e1, by rw [has_del_other hx]; exact e2⟩
     · exact .inr ⟨v, e1, by rw [has_del_other hx]; exact e2, fun z => by rw [atKey_del_other hx]; exact e3 z⟩
end
section
variable {P : Program} {w : World} {ops : Array Oper} {rest : List Oper} {o : Oper} {a : Act} {Q : Exit → Act → World → Prop}
theorem store_op (hg : o.guard = none) (m x v : Operand) (t : TypeId) (hop : o.op = Op.mapUpdate t m x v) (k e : TypeId) (K : Keyed P k) (ht : P.underlying t = some (.map k e)) (b n s : Nat) (f : Lit → Option Value)
 (hm : a.eval m = .map (some b)) (h : RMap P w k b n f s) (hn : n < maxLen) (key val : Value) (kl : Lit) (hx : a.eval x = key) (hv : a.eval v = val) (hkey : keyOf P k key = some kl)
 (hK : ∀ w', RMap P w' k b (n + 1) (upd f kl (some val)) (if (f kl).isSome then s else s + 1) → w.grownBy w' (some b) → wpList P ops Q rest (a.put o.dst undef) w') : wpList P ops Q (o :: rest) a w := by
 refine wpList_plain hg fun K' hK' => ?_
 obtain ⟨w', hrun, r1, r2⟩ := h.store (val := val) K ht hn hkey
 unfold Oper.wp
 simp [execOp, hop, hm, hx, hv, hrun, Result.andThen]
 exact hK' _ _ (hK w' r1 r2)
theorem delete_op (hg : o.guard = none) (m x : Operand) (t k : TypeId) (hop : o.op = Op.call { callee := Callee.builtin Builtin.delete, args := #[m, x], argTypes := #[t, k] }) (e : TypeId) (K : Keyed P k) (ht : P.underlying t = some (.map k e)) (b n s : Nat) (f : Lit → Option Value)
 (hm : a.eval m = .map (some b)) (h : RMap P w k b n f s) (key : Value) (kl : Lit) (hx : a.eval x = key) (hkey : keyOf P k key = some kl)
 (hK : ∀ w', RMap P w' k b n (upd f kl none) (if (f kl).isSome then s - 1 else s) → w.grownBy w' (some b) → wpList P ops Q rest (a.put o.dst (.tuple #[])) w') : wpList P ops Q (o :: rest) a w := by
 refine wpList_plain hg fun K' hK' => ?_
 obtain ⟨w', hrun, r1, r2⟩ := h.drop K ht hkey o.type
 unfold Oper.wp
 simp [execOp, hop, resolve, invoke, builtin, hm, hx, hrun, Result.andThen]
 exact hK' _ _ (hK w' r1 r2)
end
/-! keys -/
section
variable {P : Program}
theorem key_str {k : TypeId} (hk : P.underlying k = some .string) (s : ByteArray) (hs : s.size ≤ maxLen) : keyOf P k (.string s) = some (.string s.data.toList) := by
 simp [keyOf, hk, mapKey, hs]
theorem mapM_some {α β : Type} {g : α → Option β} {h : α → β} : ∀ l : List α, (∀ x ∈ l, g x = some (h x)) → l.mapM g = some (l.map h)
 | [], _ => rfl
 | x :: l, hx => by
  rw [List.mapM_cons, hx x (by simp), mapM_some l (fun y hy => hx y (by simp [hy]))]
  rfl
theorem keyBytes_u8 : ∀ l : List UInt8, keyBytes (l.map fun b => Lit.int .u8 (b.toNat : Int)) = l
 | [] => rfl
 | b :: l => by
  have ih := keyBytes_u8 l
  unfold keyBytes at ih ⊢
  rw [List.map_cons, List.flatMap_cons, ih]
  have hb : b.toNat < 256 := b.toNat_lt
  have e1 : (((b.toNat : Int) % 2 ^ IntKind.u8.bits).toNat) = b.toNat := by
   show (((b.toNat : Int) % (2 : Int) ^ 8).toNat) = b.toNat
   omega
  have : Lit.keyBytes (.int .u8 (b.toNat : Int)) = [b] := by
   show bytesBE 1 _ = [b]
   rw [e1]
   unfold bytesBE bytesLE bytesLE
   rw [Nat.mod_eq_of_lt hb]
   simp
  rw [this]; rfl
theorem key_bytes {k e : TypeId} {n : Nat} (hk : P.underlying k = some (.array n e)) (he : P.underlying e = some (.int .u8)) (hc : P.cellsOf e = 1) (hC : P.cellsOf k = n) (hK : P.keyType k = true) (hn : 1 ≤ P.types.size) (l : List UInt8) (hl : l.length = n) :
 keyOf P k (.agg (Cv.bytesV l)) = some (.string l) := by
 obtain ⟨d, hd⟩ : ∃ d, P.types.size = d + 1 := ⟨P.types.size - 1, by omega⟩
 have hsz := Cv.qa_ l
 have hform : (Value.agg (Cv.bytesV l)).formed P k = true := by simp [Value.formed, hk, hC, hsz, hl]
 have hcells : (Value.agg (Cv.bytesV l)).cells.toList = l.map fun b => Value.int .u8 (b.toNat : Int) := by unfold Cv.bytesV; simp [Value.cells, Lib.byteCells]
 have hlits : P.keyLits (d + 1 + 1) k (l.map fun b => Value.int .u8 (b.toNat : Int)) = some (l.map fun b => Lit.int .u8 (b.toNat : Int)) := by
  unfold Program.keyLits
  rw [hk]
  simp only [List.length_map, hC, hl, hc, if_true, Nat.mul_one]
  rw [mapM_some (h := fun i => [Lit.int .u8 ((l.getD i 0).toNat : Int)])]
  · simp only [Option.map_some, Option.some.injEq]
    apply List.ext_getElem?
    intro j
    have e1 : ((List.range n).map fun i => [Lit.int .u8 ((l.getD i 0).toNat : Int)]).flatten = (List.range n).map fun i => Lit.int .u8 ((l.getD i 0).toNat : Int) := by
     rw [← List.flatMap_def]; exact (List.map_eq_flatMap).symm
    rw [e1, List.getElem?_map, List.getElem?_map]
    by_cases hj : j < n
    · rw [List.getElem?_range hj, List.getElem?_eq_getElem (by omega)]
      simp [List.getD_eq_getElem?_getD, List.getElem?_eq_getElem (show j < l.length by omega)]
    · rw [List.getElem?_eq_none (by simp; omega), List.getElem?_eq_none (by omega)]; rfl
  · intro i hi
    have hin : i < l.length := by rw [hl]; exact List.mem_range.1 hi
    have e2 : ((l.map fun b => Value.int .u8 (b.toNat : Int)).drop i).take 1 = [Value.int .u8 ((l.getD i 0).toNat : Int)] := by
     rw [List.drop_eq_getElem_cons (by simpa using hin)]
     simp [List.getD_eq_getElem?_getD, List.getElem?_eq_getElem hin]
    rw [e2]
    unfold Program.keyLits
    rw [he]
    have hw : (Lit.int .u8 ((l.getD i 0).toNat : Int)).wf = true := WalkArith.wf_u8 (by have := (l.getD i 0).toNat_lt; omega)
    show (if IntKind.u8 = IntKind.u8 ∧ (Lit.int .u8 ((l.getD i 0).toNat : Int)).wf = true then some [Lit.int .u8 ((l.getD i 0).toNat : Int)] else none) = _
    rw [if_pos ⟨rfl, hw⟩]
 unfold keyOf
 rw [hk]
 simp only [hK, hform, hcells, hd, hlits, Bool.and_self, if_true, Option.map_some, keyBytes_u8]
end
end Mp
namespace St
open Go.RowKit Go.Proofs.YtciibogkfbicfaaGreatDoor.Ow Go.Proofs.YtciibogkfbicfaaGreatDoor.Mp Go.Maps
abbrev Pr := List UInt8 × List UInt8
def keysOf (L : List Pr) (t : List UInt8) : List (List UInt8) := (L.filter fun p => decide (p.1 = t)).map (·.2)
def whoOf (L : List Pr) (k : List UInt8) : Option (List UInt8) := (L.find? fun p => decide (p.2 = k)).map (·.1)
def ddup : List (List UInt8) → List (List UInt8)
 | [] => []
 | x :: l => if x ∈ ddup l then ddup l else x :: ddup l
theorem mem_ddup {x : List UInt8} : ∀ l : List (List UInt8), x ∈ ddup l ↔ x ∈ l
 | [] => Iff.rfl
 | y :: l => by
  have ih := mem_ddup (x := x) l
  unfold ddup
  split
  · rename_i h
    rw [ih, List.mem_cons]
    exact ⟨.inr, fun e => e.elim (fun e => by rw [e]; exact (mem_ddup l).1 h) id⟩
  · rw [List.mem_cons, List.mem_cons, ih]
theorem nodup_ddup : ∀ l : List (List UInt8), (ddup l).Nodup
 | [] => List.nodup_nil
 | y :: l => by
  unfold ddup
  split
  · exact nodup_ddup l
  · rename_i h
    exact List.nodup_cons.2 ⟨h, nodup_ddup l⟩
def tens (L : List Pr) : List (List UInt8) := ddup (L.map (·.1))
theorem mem_tens {L : List Pr} {x : List UInt8} : x ∈ tens L ↔ keysOf L x ≠ [] := by
 unfold tens keysOf
 rw [mem_ddup, List.mem_map]
 constructor
 · rintro ⟨p, hp, rfl⟩ e
   have : p ∈ L.filter fun q => decide (q.1 = p.1) := List.mem_filter.2 ⟨hp, decide_eq_true rfl⟩
   rw [List.map_eq_nil_iff.1 e] at this
   simp at this
 · intro h
   cases e : L.filter fun p => decide (p.1 = x) with
   | nil => rw [e] at h; exact absurd rfl h
   | cons p r =>
    have hp : p ∈ L.filter fun p => decide (p.1 = x) := by rw [e]; simp
    exact ⟨p, (List.mem_filter.1 hp).1, of_decide_eq_true (List.mem_filter.1 hp).2⟩
def namesL (L : List Pr) : List (List UInt8) := (tens L).mergeSort leB
theorem namesL_length (L : List Pr) : (namesL L).length = (tens L).length := List.length_mergeSort _
structure Good (L : List Pr) : Prop where
 key : ∀ p ∈ L, p.2.length = 32
 val : ∀ p ∈ L, validB p.1 = true
 nd : (L.map (·.2)).Nodup
theorem Good.nil : Good [] := ⟨fun p h => by simp at h, fun p h => by simp at h, by simp⟩
def strB (t : List UInt8) : ByteArray := ⟨t.toArray⟩
theorem keyed_str : Keyed prog 9 := string_keyed underlying9
theorem laidOut : laidOutB prog = true := by kernel_rfl
theorem keyed_key : Keyed prog 22 := Keyed.of_law (deep_law_gate laidOut (of_decide_eq_true (by kernel_rfl)) (of_decide_eq_true (by kernel_rfl)) (by kernel_rfl) (by rw [underlying22]))
theorem key32 (l : List UInt8) (hl : l.length = 32) : keyOf prog 22 (.agg (Cv.bytesV l)) = some (.string l) :=
 key_bytes underlying22 underlying5 (by kernel_rfl) (by kernel_rfl) (by kernel_rfl) (of_decide_eq_true (by kernel_rfl)) l hl
def IsSt (w : World) (sb bo bw T K N : Nat) (L : List Pr) : Prop :=
 Rg.Blk w sb 108 #[.int .i64 (T : Int), .int .i64 (K : Int), .map (some bo), .map (some bw)] ∧ bo ≠ bw ∧ Good L ∧
 (∃ f, RMap prog w 9 bo N f (tens L).length ∧ ∀ x, (keysOf L x = [] ∧ f (.string x) = none) ∨ (keysOf L x ≠ [] ∧ ∃ v, f (.string x) = some v ∧ KS w v (keysOf L x))) ∧
 (∃ g s, RMap prog w 22 bw N g s ∧ ∀ k, g (.string k) = (whoOf L k).map fun t => .agg #[.string (strB t)])
theorem IsSt.below {w w' : World} {sb bo bw T K N : Nat} {L : List Pr} (h : IsSt w sb bo bw T K N L) (hb : Below w.heap.size w w') : IsSt w' sb bo bw T K N L := by
 obtain ⟨h1, h2, h3, ⟨f, hf, hfx⟩, ⟨g, s, hg, hgx⟩⟩ := h
 refine ⟨h1.below hb h1.lt, h2, h3, ⟨f, hf.below hb hf.lt, fun x => ?_⟩, ⟨g, s, hg.below hb hg.lt, hgx⟩⟩
 rcases hfx x with h | ⟨h4, v, h5, h6⟩
 · exact .inl h
 · exact .inr ⟨h4, v, h5, h6.below hb⟩
def clampN (n : Int) : Nat := (max 0 (min n 64)).toNat
theorem New1_any (w : World) (n : Int) : Calls prog 87 #[.int .i64 n] w fun e w' => e = .returned (.int .i64 (clampN n : Int)) ∧ w = w' := by
 go_enter func87, ntmps87
 go_wp2
 all_goals
  go_ret
  refine ⟨?_, rfl⟩
  show Ending.returned (Value.int .i64 _) = _
  congr 2
  unfold clampN
  omega
theorem New_any (w : World) (a b : Int) : Calls prog 47 #[.int .i64 a, .int .i64 b] w fun e w' => ∃ sb bo bw, e = .returned (.pointer (some ⟨sb, 0, none⟩)) ∧ IsSt w' sb bo bw (clampN a) (clampN b) 0 [] ∧ Below w.heap.size w w' ∧ w.heap.size ≤ sb ∧ w.heap.size ≤ bo ∧ w.heap.size ≤ bw := by
 have HA := ϕ (fun W => New1_any W a)
 have HB := ϕ (fun W => New1_any W b)
 have hmm := @run_makeMap prog
 have tok := trivial
 go_enter func47, ntmps47
 go_wp2_with (first
  | (go_at_call 87; have _t := tok; refine (HA.out _).mono ?_; rintro e w1 ⟨rfl, rfl⟩; have tok2 := trivial; clear _t tok)
  | (go_at_call 87; have _t := tok2; refine (HB.out _).mono ?_; rintro e w1 ⟨rfl, rfl⟩; skip; clear _t tok2))
 go_ret
 have h1 : Below w.heap.size w (w.alloc (.map #[] 0)) := (Below.refl _ _).alloc (Nat.le_refl _) _
 have h2 : Below w.heap.size w ((w.alloc (.map #[] 0)).alloc (.map #[] 0)) := h1.alloc (by simp) _
 refine ⟨_, w.heap.size, w.heap.size + 1, rfl, ⟨Rg.Blk.newAt (by simp) _ _, by omega, Good.nil, ⟨fun _ => none, ?_, fun x => .inl ⟨rfl, rfl⟩⟩, ⟨fun _ => none, 0, ?_, fun k => rfl⟩⟩, h2.alloc (by simp; omega) _, by omega, Nat.le_refl _, by omega⟩
 · have h := RMap.made w prog 9
   exact h.below (B := w.heap.size + 1) (((Below.refl _ _).alloc (by simp) _).alloc (by simp) _) (by omega)
 · have h := RMap.made (w.alloc (.map #[] 0)) prog 22
   rw [show (w.alloc (.map #[] 0)).heap.size = w.heap.size + 1 by simp] at h
   exact h.below (B := w.heap.size + 1 + 1) ((Below.refl _ _).alloc (by simp) _) (by omega)
end St
namespace Au
open Go.RowKit Go.Proofs.YtciibogkfbicfaaGreatDoor.Wi Go.Proofs.YtciibogkfbicfaaGreatDoor.Ow Go.Proofs.YtciibogkfbicfaaGreatDoor.Be Go.Proofs.YtciibogkfbicfaaGreatDoor.Bl Go.Proofs.YtciibogkfbicfaaGreatDoor.Mg Go.Proofs.YtciibogkfbicfaaGreatDoor.Ed Go.Proofs.YtciibogkfbicfaaGreatDoor.Kx
structure Sv where
 acc : Bool
 tries : Nat
 ten : List UInt8
 key : List UInt8
def failM : Msg := ⟨51, [], [], [[methB]], [false]⟩
def sucM : Msg := ⟨52, [], [], [], []⟩
def zeroM : Msg := ⟨0, [], [], [], []⟩
def accM (x : ByteArray) : Msg := ⟨6, [], [x], [], []⟩
def verL (id key user g : List UInt8) : Bool := ver key (sgdL id user key) (g.take 32) (g.drop 32)
def askM (user c mt rest : ByteArray) : Msg := ⟨50, [], [user, c, mt, rest], [], []⟩
theorem l50 : ltr 50 = [115, 115, 115, 114] := by decide
theorem l5 : ltr 5 = [115] := by decide
theorem k50 : isK 50 = true := by decide
theorem k5 : isK 5 = true := by decide
theorem ask_ok {user c mt rest : ByteArray} (h1 : user.size ≤ 32768) (h2 : c.size ≤ 32768) (h3 : mt.size ≤ 32768) (h4 : rest.size ≤ 32768) : checkC (askM user c mt rest) = 0 := by
 unfold checkC askM counted
 simp only [l50, k50, chk, hd, cntS, List.headD_cons, List.tail_cons]
 simp [Nat.not_lt.2 h1, Nat.not_lt.2 h2, Nat.not_lt.2 h3, Nat.not_lt.2 h4]
theorem srv_ok {x : ByteArray} (h1 : x.size ≤ 32768) : checkC ⟨5, [], [x], [], []⟩ = 0 := by
 unfold checkC counted
 simp only [l5, k5, chk, hd, cntS, List.headD_cons, List.tail_cons]
 simp [Nat.not_lt.2 h1]
def tL : List UInt8 := [116]
def uL : List UInt8 := [117]
def L0 : List St.Pr := [(tL, kyN 0), (tL, kyN 1), (uL, kyN 2)]
def whoseN (i : Nat) : List UInt8 := if i = 0 then tL else if i = 1 then tL else if i = 2 then uL else []
theorem who0 : St.whoOf L0 (kyN 0) = some tL := by
 unfold St.whoOf L0
 rw [List.find?_cons_of_pos (by exact decide_eq_true rfl)]
 rfl
theorem who1 : St.whoOf L0 (kyN 1) = some tL := by
 unfold St.whoOf L0
 rw [List.find?_cons_of_neg (by simpa using ne01), List.find?_cons_of_pos (by exact decide_eq_true rfl)]
 rfl
theorem who2 : St.whoOf L0 (kyN 2) = some uL := by
 unfold St.whoOf L0
 rw [List.find?_cons_of_neg (by simpa using ne02), List.find?_cons_of_neg (by simpa using ne12), List.find?_cons_of_pos (by exact decide_eq_true rfl)]
 rfl
theorem who3 : St.whoOf L0 (kyN 3) = none := by
 unfold St.whoOf L0
 rw [List.find?_cons_of_neg (by simpa using ne03), List.find?_cons_of_neg (by simpa using ne13), List.find?_cons_of_neg (by simpa using ne23)]
 rfl
theorem who_iff {i : Nat} (hi : i < 4) (user : List UInt8) : St.whoOf L0 (kyN i) = some user ↔ user ≠ [] ∧ user = whoseN i := by
 match i, hi with
 | 0, _ =>
  rw [who0]
  exact ⟨fun e => by cases e; exact ⟨by decide, rfl⟩, fun e => by rw [e.2]; rfl⟩
 | 1, _ =>
  rw [who1]
  exact ⟨fun e => by cases e; exact ⟨by decide, rfl⟩, fun e => by rw [e.2]; rfl⟩
 | 2, _ =>
  rw [who2]
  exact ⟨fun e => by cases e; exact ⟨by decide, rfl⟩, fun e => by rw [e.2]; rfl⟩
 | 3, _ =>
  rw [who3]
  exact ⟨fun e => (by cases e), fun e => absurd e.2 e.1⟩
def sigN (i : Nat) (id user : List UInt8) : List UInt8 := sig (sdN i) (kyN i) (sgdL id user (kyN i))
theorem sigN_len (i : Nat) (id user : List UInt8) : (sigN i id user).length = 64 := by
 unfold sigN sig
 rw [List.length_append, Ed.enc_len, qw_]
theorem verL_own (i : Nat) (id user : List UInt8) : verL id (kyN i) user (sigN i id user) = true := by
 have h := ver_sig (sdN i) (sgdL id user (kyN i))
 unfold verL sigN sig
 rw [List.take_left' (Ed.enc_len _), List.drop_left' (Ed.enc_len _)]
 exact h
def reqR (i : Nat) (id user : List UInt8) : ByteArray := ⟨(reqL (kyN i) (sigN i id user)).toArray⟩
theorem reqR_size (i : Nat) (id user : List UInt8) : (reqR i id user).size = 158 := by
 show (reqL (kyN i) (sigN i id user)).toArray.size = 158
 rw [List.size_toArray, reqL_length (kyN_len i) (sigN_len i id user)]
theorem txtS_sz (s : ByteArray) (c : Nat) (m : Int) : (txtS s c m).size ≤ s.size := by
 unfold txtS
 split
 · exact Nat.zero_le _
 · exact Nat.le_trans (rawS_size _ _ _) (rawS_size _ _ _)
theorem whoOf_del {L : List St.Pr} {k x : List UInt8} : St.whoOf (L.filter fun p => decide (p.2 ≠ k)) x = if x = k then none else St.whoOf L x := by
 induction L with
 | nil => unfold St.whoOf; simp
 | cons p L ih =>
  unfold St.whoOf at *
  by_cases hp : p.2 = k
  · rw [List.filter_cons_of_neg (by simp [hp]), ih]
    split
    · rfl
    · rename_i hx
      rw [List.find?_cons_of_neg (by simpa using fun e => hx (by rw [← e, hp]))]
  · rw [List.filter_cons_of_pos (by simp [hp])]
    by_cases hx : p.2 = x
    · rw [List.find?_cons_of_pos (by simpa using hx), List.find?_cons_of_pos (by simpa using hx), if_neg (fun e => hp (by rw [hx, e]))]
    · rw [List.find?_cons_of_neg (by simpa using hx), List.find?_cons_of_neg (by simpa using hx), ih]
end Au
namespace Ei
open Go.RowKit Go.Extern.Stop Go.Stop Go.Extern Go.Extern.Rtype
def errG : List Nat := [3, 4, 5, 6, 7, 1, 8, 9, 10, 11, 12, 13, 14, 15, 2, 16, 17, 18, 19, 0]
structure ErrsAll (w : World) (a : Nat → Addr) : Prop where
 cell : ∀ k, k < 20 → w.cell? ⟨errG.getD k 0, 0, none⟩ = some (.iface 271 (.pointer (some (a (k + 1)))))
 ne : ∀ i j, 1 ≤ i → i ≤ 20 → 1 ≤ j → j ≤ 20 → i ≠ j → a i ≠ a j
 row : ∀ k, 1 ≤ k → k ≤ 20 → ∃ c t, w.heap[(a k).block]? = some (.cells c t (0, 0))
theorem ErrsAll.below {w w' : World} {a : Nat → Addr} (h : ErrsAll w a) (hb : Below w.heap.size w w') : ErrsAll w' a :=
 ⟨fun k hk => (hb.cell (World.block_lt_of_cell? w _ (h.cell k hk))).trans (h.cell k hk), h.ne, fun k h1 h2 => by
  obtain ⟨c, t, hr⟩ := h.row k h1 h2
  exact ⟨c, t, (hb.block _ (Array.getElem?_eq_some_iff.1 hr).1).trans hr⟩⟩
def evA (a : Nat → Addr) (c : Nat) : Value := if c = 0 then .nilIface else .iface 271 (.pointer (some (a c)))
theorem evA_zero (a : Nat → Addr) : evA a 0 = .nilIface := rfl
end Ei
namespace Bl
open Go.RowKit Go.Proofs.YtciibogkfbicfaaGreatDoor.Wi Go.Proofs.YtciibogkfbicfaaGreatDoor.Ow Go.Proofs.YtciibogkfbicfaaGreatDoor.Be
theorem blob_out (s : ByteArray) : (⟨(([] ++ textL algoB.data.toList) ++ textL s.data.toList).toArray⟩ : ByteArray) = mkS (blobL s.data.toList) := by unfold mkS blobL; rw [List.nil_append]
theorem blob_any (w : World) (s : ByteArray) (hs : s.size ≤ 1000) :
 Calls prog 85 #[.string s] w fun e w' => e = .returned (.string (mkS (blobL s.data.toList))) ∧ Below w.heap.size w w' := by
 have HO := ϕ (outFresh w)
 have HB := ϕ (show Below w.heap.size w (w.alloc (.cells #[.pointer none, .slice none 0 0] 93)) from (Below.refl _ _).alloc (Nat.le_refl _) _)
 have HA := ϕ (show ∀ W, IsOut w.heap.size w.heap.size [] W → w.heap.size ≤ W.heap.size → Calls prog 40 #[.pointer (some ⟨w.heap.size, 0, none⟩), .string ⟨#[115, 115, 104, 45, 101, 100, 50, 53, 53, 49, 57]⟩] W (Wrote w.heap.size w.heap.size ([] ++ textL algoB.data.toList) W) from fun W h1 h2 => by
  rw [algo_eq]
  exact Text_any w.heap.size w.heap.size [] algoB (by rw [jj_]; decide) _ h1 (by rw [jj_]; decide) h2)
 have HT := ϕ (show ∀ W, IsOut w.heap.size w.heap.size ([] ++ textL algoB.data.toList) W → w.heap.size ≤ W.heap.size → Calls prog 40 #[.pointer (some ⟨w.heap.size, 0, none⟩), .string s] W (Wrote w.heap.size w.heap.size (([] ++ textL algoB.data.toList) ++ textL s.data.toList) W) from fun W h1 h2 =>
  Text_any w.heap.size w.heap.size _ s (by omega) _ h1 (by unfold textL; simp only [List.nil_append, List.length_append, be_length, qu_, jj_]; omega) h2)
 have HBY := ϕ (show ∀ W, Bo.Read w.heap.size w.heap.size (([] ++ textL algoB.data.toList) ++ textL s.data.toList) W → w.heap.size ≤ W.heap.size → Calls prog 44 #[.pointer (some ⟨w.heap.size, 0, none⟩)] W fun e w' => e = .returned (.string (mkS (blobL s.data.toList))) ∧ Below w.heap.size W w' from fun W h1 h2 =>
  (Bytes_eq w.heap.size w.heap.size _ _ (blob_out s) W h1 h2).mono fun e w' ⟨h1, _, h3, _⟩ => ⟨h1, h3⟩)
 clear hs
 have tok := trivial
 go_enter func85, ntmps85
 go_wp2_with (first
  | (go_at_call 40; have _t := tok; refine (HA.out _ HO.out HB.out.size).mono ?_; rintro e w1 ⟨rfl, h1, hb1⟩; have H1 := ϕ h1; have HB1 := ϕ (HB.out.trans hb1.below); have tok2 := trivial; clear h1 hb1 _t tok)
  | (go_at_call 40; have _t := tok2; refine (HT.out _ H1.out HB1.out.size).mono ?_; rintro e w2 ⟨rfl, h2, hb2⟩; have H2 := ϕ (Bo.Read.of h2); have HB2 := ϕ (HB1.out.trans hb2.below); clear h2 hb2 _t tok2)
  | (go_at_call 44; refine (HBY.out _ H2.out HB2.out.size).mono ?_; rintro e w4 ⟨rfl, hb4⟩; have HB4 := ϕ (HB2.out.trans hb4); clear hb4))
 go_ret
 exact ⟨rfl, HB4.out⟩
theorem open_any (w : World) (E : Nat → Value) (hE : Errs w E) (s : ByteArray) (hs : s.size ≤ 1000000) (size wrong : Nat) (hw : wrong ≠ 0) :
 Calls prog 130 #[.string s, .int .i64 size, E wrong] w fun e w' => e = .returned (.tuple #[.string (opR s size wrong), evV E (opC s size wrong)]) ∧ Below w.heap.size w w' := by
 obtain ⟨r1, hr1⟩ : ∃ r, opW s = r := exr
 obtain ⟨s1, hs1⟩ : ∃ r, txtS s 0 s.size = r := exr
 obtain ⟨c1, hc1⟩ : ∃ r, txtC s 0 s.size = r := exr
 obtain ⟨r2, hr2⟩ : ∃ r, opX s = r := exr
 obtain ⟨s2, hs2⟩ : ∃ r, opS s = r := exr
 obtain ⟨c2, hc2⟩ : ∃ r, opE s = r := exr
 obtain ⟨c3, hc3⟩ : ∃ r, endC s2 c2 = r := exr
 have hsz1 : s1.size ≤ 1000000 := by
  rw [← hs1]
  unfold txtS
  split
  · exact Nat.zero_le _
  · exact Nat.le_trans (rawS_size _ _ _) (Nat.le_trans (rawS_size _ _ _) hs)
 have hC : opC s size wrong = if c3 ≠ 0 then c3 else if r1 = algoB ∧ r2.size = size then 0 else wrong := by unfold opC; rw [hs2, hc2, hc3, hr1, hr2]
 have hR : opR s size wrong = if opC s size wrong = 0 then r2 else ⟨#[]⟩ := by unfold opR; rw [hr2]
 have HT1 := ϕ (show ∀ W b, Errs W E → Gl b → IsIn W b s (evV E 0) → Calls prog 92 #[.pointer (some ⟨b, 0, none⟩), .int .i64 s.size] W (Gave E b W (.string r1) s1 c1) from fun W b h1 h2 h3 => by
  have := InText_any W E b s 0 s.size (by omega) h1 h2 h3
  rw [show txtR s 0 s.size = r1 from hr1, hs1, hc1] at this
  exact this)
 have HT2 := ϕ (show ∀ W b, Errs W E → Gl b → IsIn W b s1 (evV E c1) → Calls prog 92 #[.pointer (some ⟨b, 0, none⟩), .int .i64 s.size] W (Gave E b W (.string r2) s2 c2) from fun W b h1 h2 h3 => by
  have := InText_any W E b s1 c1 s.size (by omega) h1 h2 h3
  rw [show txtR s1 c1 s.size = r2 by rw [← hr2, ← hs1, ← hc1]; rfl, show txtS s1 c1 s.size = s2 by rw [← hs2, ← hs1, ← hc1]; rfl, show txtC s1 c1 s.size = c2 by rw [← hc2, ← hs1, ← hc1]; rfl] at this
  exact this)
 have HEN := ϕ (show ∀ W b, Errs W E → Gl b → IsIn W b s2 (evV E c2) → Calls prog 93 #[.pointer (some ⟨b, 0, none⟩)] W fun e w' => e = .returned (evV E c3) ∧ W.grownBy w' (some b) from fun W b h1 h2 h3 => by
  refine (InEnd_any W E b s2 c2 h1 h2 h3).mono fun e w' ⟨h4, _, h5⟩ => ⟨?_, h5⟩
  rw [← hc3]; exact h4)
 have HE := ϕ hE
 have HG := ϕ (hE.gl (Nat.le_refl w.heap.size))
 have hEi := hE.is
 obtain ⟨av, hav⟩ := hEi wrong hw
 rw [hC] at hR
 rw [hC, hR]
 clear hr1 hs1 hc1 hr2 hs2 hc2 hc3 hE hs hsz1 hC hR
 have fin : ∀ (ev : Value) (x : ByteArray), evV E (if c3 ≠ 0 then c3 else if r1 = algoB ∧ r2.size = size then 0 else wrong) = ev → (if (if c3 ≠ 0 then c3 else if r1 = algoB ∧ r2.size = size then 0 else wrong) = 0 then r2 else ⟨#[]⟩) = x →
  (Calls prog 130 #[.string s, .int .i64 size, E wrong] w fun e w' => e = .returned (.tuple #[.string x, ev]) ∧ Below w.heap.size w w') → Calls prog 130 #[.string s, .int .i64 size, E wrong] w fun e w' => e = .returned (.tuple #[.string (if (if c3 ≠ 0 then c3 else if r1 = algoB ∧ r2.size = size then 0 else wrong) = 0 then r2 else ⟨#[]⟩), evV E (if c3 ≠ 0 then c3 else if r1 = algoB ∧ r2.size = size then 0 else wrong)]) ∧ Below w.heap.size w w' := fun ev x h1 h2 h => by rw [h1, h2]; exact h
 by_cases h3 : c3 = 0
 · subst h3
   rw [evV_zero] at HEN
   by_cases hq : r1 = algoB ∧ r2.size = size
   · refine fin .nilIface r2 (by rw [if_neg (by simp), if_pos hq]; rfl) (by simp [hq]) ?_
     obtain ⟨rfl, rfl⟩ := hq
     have k0 := algo_list
     rw [hav]
     clear fin hav hEi hw
     go_enter func130, ntmps130
     have tok := trivial
     go_wp2_with (first
      | (go_at_call 90; refine (Of_any _ s).mono ?_; rintro e w1 ⟨rfl, h1, hb1⟩; have H1 := ϕ (show IsIn w1 w.heap.size s (evV E 0) from h1); have HB1 := ϕ hb1; have HE1 := ϕ (HE.out.below hb1); clear h1 hb1)
      | (go_at_call 92; have _t := tok; refine (HT1.out _ _ HE1.out HG.out H1.out).mono ?_; rintro e w2 ⟨rfl, h2, hg2⟩; have H2 := ϕ h2; have HE2 := ϕ (HE1.out.keep hg2 HG.out); have HB2 := ϕ (HB1.out.grown hg2 HB1.out.size (fun k hk => by cases hk; exact Nat.le_refl _)); have tok2 := trivial; clear h2 hg2 _t tok)
      | (go_at_call 92; have _t := tok2; refine (HT2.out _ _ HE2.out HG.out H2.out).mono ?_; rintro e w3 ⟨rfl, h3, hg3⟩; have H3 := ϕ h3; have HE3 := ϕ (HE2.out.keep hg3 HG.out); have HB3 := ϕ (HB2.out.grown hg3 HB2.out.size (fun k hk => by cases hk; exact Nat.le_refl _)); clear h3 hg3 _t tok2)
      | (go_at_call 93; refine (HEN.out _ _ HE3.out HG.out H3.out).mono ?_; rintro e w4 ⟨rfl, hg4⟩; have HB4 := ϕ (HB3.out.grown hg4 HB3.out.size (fun k hk => by cases hk; exact Nat.le_refl _)); clear hg4))
     go_ret2
     exact ⟨rfl, HB4.out⟩
   · refine fin (E wrong) ⟨#[]⟩ (by rw [if_neg (by simp), if_neg hq]; exact evV_pos E hw) (by simp [hq, hw]) ?_
     rw [hav]
     clear fin hav hEi hw
     by_cases h1 : r1 = algoB
     · subst h1
       have k0 := algo_list
       have h2 : ((r2.size : Int) == (size : Int)) = false := by
        rw [beq_eq_false_iff_ne]; intro e; exact hq ⟨rfl, by omega⟩
       have h2' : ¬ (r2.size : Int) = (size : Int) := by simpa using h2
       have h2n : ¬ r2.size = size := by omega
       clear hq
       go_enter func130, ntmps130
       have tok := trivial
       go_wp2_with (first
        | (go_at_call 90; refine (Of_any _ s).mono ?_; rintro e w1 ⟨rfl, h1, hb1⟩; have H1 := ϕ (show IsIn w1 w.heap.size s (evV E 0) from h1); have HB1 := ϕ hb1; have HE1 := ϕ (HE.out.below hb1); clear h1 hb1)
        | (go_at_call 92; have _t := tok; refine (HT1.out _ _ HE1.out HG.out H1.out).mono ?_; rintro e w2 ⟨rfl, h2, hg2⟩; have H2 := ϕ h2; have HE2 := ϕ (HE1.out.keep hg2 HG.out); have HB2 := ϕ (HB1.out.grown hg2 HB1.out.size (fun k hk => by cases hk; exact Nat.le_refl _)); have tok2 := trivial; clear h2 hg2 _t tok)
        | (go_at_call 92; have _t := tok2; refine (HT2.out _ _ HE2.out HG.out H2.out).mono ?_; rintro e w3 ⟨rfl, h3, hg3⟩; have H3 := ϕ h3; have HE3 := ϕ (HE2.out.keep hg3 HG.out); have HB3 := ϕ (HB2.out.grown hg3 HB2.out.size (fun k hk => by cases hk; exact Nat.le_refl _)); clear h3 hg3 _t tok2)
        | (go_at_call 93; refine (HEN.out _ _ HE3.out HG.out H3.out).mono ?_; rintro e w4 ⟨rfl, hg4⟩; have HB4 := ϕ (HB3.out.grown hg4 HB3.out.size (fun k hk => by cases hk; exact Nat.le_refl _)); clear hg4))
       go_ret2
       exact ⟨rfl, HB4.out⟩
     · have h2 : (r1.toList == [115, 115, 104, 45, 101, 100, 50, 53, 53, 49, 57]) = false := by
        rw [beq_eq_false_iff_ne, ← algo_list, ByteArray.toList_eq, ByteArray.toList_eq]
        intro e
        exact h1 (by apply ByteArray.ext; apply Array.toList_inj.1; exact e)
       have h2' : ¬ r1.toList = [115, 115, 104, 45, 101, 100, 50, 53, 53, 49, 57] := by simpa using h2
       clear hq h1
       go_enter func130, ntmps130
       have tok := trivial
       go_wp2_with (first
        | (go_at_call 90; refine (Of_any _ s).mono ?_; rintro e w1 ⟨rfl, h1, hb1⟩; have H1 := ϕ (show IsIn w1 w.heap.size s (evV E 0) from h1); have HB1 := ϕ hb1; have HE1 := ϕ (HE.out.below hb1); clear h1 hb1)
        | (go_at_call 92; have _t := tok; refine (HT1.out _ _ HE1.out HG.out H1.out).mono ?_; rintro e w2 ⟨rfl, h2, hg2⟩; have H2 := ϕ h2; have HE2 := ϕ (HE1.out.keep hg2 HG.out); have HB2 := ϕ (HB1.out.grown hg2 HB1.out.size (fun k hk => by cases hk; exact Nat.le_refl _)); have tok2 := trivial; clear h2 hg2 _t tok)
        | (go_at_call 92; have _t := tok2; refine (HT2.out _ _ HE2.out HG.out H2.out).mono ?_; rintro e w3 ⟨rfl, h3, hg3⟩; have H3 := ϕ h3; have HE3 := ϕ (HE2.out.keep hg3 HG.out); have HB3 := ϕ (HB2.out.grown hg3 HB2.out.size (fun k hk => by cases hk; exact Nat.le_refl _)); clear h3 hg3 _t tok2)
        | (go_at_call 93; refine (HEN.out _ _ HE3.out HG.out H3.out).mono ?_; rintro e w4 ⟨rfl, hg4⟩; have HB4 := ϕ (HB3.out.grown hg4 HB3.out.size (fun k hk => by cases hk; exact Nat.le_refl _)); clear hg4))
       go_ret2
       exact ⟨rfl, HB4.out⟩
 · obtain ⟨bv, hbv⟩ := hEi c3 h3
   have hev : evV E c3 = E c3 := evV_pos E h3
   refine fin (E c3) ⟨#[]⟩ (by rw [if_pos h3]; exact hev) (by rw [if_pos h3, if_neg h3]) ?_
   rw [hav, hbv]
   rw [hev, hbv] at HEN
   clear fin hav hbv hev hEi hw h3
   go_enter func130, ntmps130
   have tok := trivial
   go_wp2_with (first
    | (go_at_call 90; refine (Of_any _ s).mono ?_; rintro e w1 ⟨rfl, h1, hb1⟩; have H1 := ϕ (show IsIn w1 w.heap.size s (evV E 0) from h1); have HB1 := ϕ hb1; have HE1 := ϕ (HE.out.below hb1); clear h1 hb1)
    | (go_at_call 92; have _t := tok; refine (HT1.out _ _ HE1.out HG.out H1.out).mono ?_; rintro e w2 ⟨rfl, h2, hg2⟩; have H2 := ϕ h2; have HE2 := ϕ (HE1.out.keep hg2 HG.out); have HB2 := ϕ (HB1.out.grown hg2 HB1.out.size (fun k hk => by cases hk; exact Nat.le_refl _)); have tok2 := trivial; clear h2 hg2 _t tok)
    | (go_at_call 92; have _t := tok2; refine (HT2.out _ _ HE2.out HG.out H2.out).mono ?_; rintro e w3 ⟨rfl, h3, hg3⟩; have H3 := ϕ h3; have HE3 := ϕ (HE2.out.keep hg3 HG.out); have HB3 := ϕ (HB2.out.grown hg3 HB2.out.size (fun k hk => by cases hk; exact Nat.le_refl _)); clear h3 hg3 _t tok2)
    | (go_at_call 93; refine (HEN.out _ _ HE3.out HG.out H3.out).mono ?_; rintro e w4 ⟨rfl, hg4⟩; have HB4 := ϕ (HB3.out.grown hg4 HB3.out.size (fun k hk => by cases hk; exact Nat.le_refl _)); clear hg4))
   go_ret2
   exact ⟨rfl, HB4.out⟩
end Bl
namespace Ei
open Go.RowKit
def someE : List Nat := [0, 1, 2, 3, 5, 6, 7, 8, 9, 10, 14, 15, 16, 19]
structure ErrsA (w : World) (a : Nat → Addr) : Prop where
 cell : ∀ k, k ∈ someE → w.cell? ⟨errG.getD k 0, 0, none⟩ = some (.iface 271 (.pointer (some (a (k + 1)))))
theorem ErrsA.below {w w' : World} {a : Nat → Addr} (h : ErrsA w a) (hb : Below w.heap.size w w') : ErrsA w' a :=
 ⟨fun k hk => (hb.cell (World.block_lt_of_cell? w _ (h.cell k hk))).trans (h.cell k hk)⟩
theorem someE_lt : ∀ k ∈ someE, k < 20 := by decide
theorem ErrsAll.a {w : World} {a : Nat → Addr} (h : ErrsAll w a) : ErrsA w a := ⟨fun k hk => h.cell k (someE_lt k hk)⟩
end Ei
namespace Bl
open Go.RowKit Go.Proofs.YtciibogkfbicfaaGreatDoor.Wi Go.Proofs.YtciibogkfbicfaaGreatDoor.Ow Go.Proofs.YtciibogkfbicfaaGreatDoor.Be Go.Proofs.YtciibogkfbicfaaGreatDoor.Cv
variable {P : Program}
theorem jk_ {fn : Func} {p u : Tmp} {ty : TypeId} (h : fn.results = #[.cell p ty, .tmp u]) (tmps : Array Value) (w : World) (g : Nat) (t : TypeId) (cs : Array Value) (fr : Nat × Nat) (d : TypeDesc)
 (hp : tmps.getD p undef = .pointer (some ⟨g, 0, none⟩)) (hg : w.heap[g]? = some (.cells cs t fr))
 (hu : P.underlying ty = some d) (hd : (match d with | .struct _ | .array _ _ => true | _ => false) = true) (hi : (P.info? ty).map (·.size) = some cs.size) :
 (results fn tmps).run P w = .ok (.tuple #[.agg cs, tmps.getD u undef]) w := by
 have hp' : tmps[p]?.getD undef = .pointer (some ⟨g, 0, none⟩) := by simpa using hp
 simp [results, h, hp', asAddr, run_loadVar_row w g t ty cs fr d hg hu hd hi]
@[irreducible] def zB (n : Nat) : List UInt8 := List.replicate n 0
theorem jt_ (n : Nat) : (zB n).length = n := by unfold zB; exact List.length_replicate
def eB (a : Nat → Addr) (c : Nat) : Value := .iface 271 (.pointer (some (a c)))
theorem errsB {w : World} {a : Nat → Addr} (h : Ei.ErrsA w a) : Errs w (eB a) :=
 ⟨fun k _ => ⟨_, rfl⟩, h.cell 3 (by decide), h.cell 2 (by decide), h.cell 1 (by decide)⟩
theorem KeyBlob_any (w : World) (l : List UInt8) (hl : l.length = 32) :
 Calls prog 43 #[.agg (bytesV l)] w fun e w' => e = .returned (.string (mkS (blobL l))) ∧ Below w.heap.size w w' := by
 have HL := ϕ hl
 have HBL := ϕ (show ∀ W, Calls prog 85 #[.string ⟨l.toArray⟩] W fun e w' => e = .returned (.string (mkS (blobL l))) ∧ Below W.heap.size W w' from fun W => blob_any W ⟨l.toArray⟩ (by show l.toArray.size ≤ 1000; rw [List.size_toArray]; omega))
 clear hl
 go_enter func43, ntmps43
 go_wp2_with (first
  | (refine Rg.qh_ rfl 22 _ rfl _ rfl ?_; intro V hK hbV hnV; have HK := ϕ hK; have HBV := ϕ hbV; clear hK hbV hnV)
  | (refine jr_ rfl 28 5 9 _ rfl underlying28 underlying5 underlying9 w.heap.size 0 32 32 l rfl HL.out (Bytes.of_blk HK.out) ?_; skip)
  | (go_at_call 85; refine (HBL.out _).mono ?_; rintro e w2 ⟨rfl, hb2⟩; have HB2 := ϕ (HBV.out.trans (hb2.mono HBV.out.size)); clear hb2))
 go_ret
 exact ⟨rfl, HB2.out⟩
theorem zero_key : bytesV (zB 32) = #[.int .u8 0, .int .u8 0, .int .u8 0, .int .u8 0, .int .u8 0, .int .u8 0, .int .u8 0, .int .u8 0, .int .u8 0, .int .u8 0, .int .u8 0, .int .u8 0, .int .u8 0, .int .u8 0, .int .u8 0, .int .u8 0, .int .u8 0, .int .u8 0, .int .u8 0, .int .u8 0, .int .u8 0, .int .u8 0, .int .u8 0, .int .u8 0, .int .u8 0, .int .u8 0, .int .u8 0, .int .u8 0, .int .u8 0, .int .u8 0, .int .u8 0, .int .u8 0] := by unfold bytesV zB; rfl
theorem BlobKey_ok (w : World) (a : Nat → Addr) (hE : Ei.ErrsA w a) (s : ByteArray) (hs : s.size ≤ 1000000) (hc : opC s 32 10 = 0) :
 Calls prog 94 #[.string s] w fun e w' => e = .returned (.tuple #[.agg (bytesV (opX s).data.toList), .nilIface]) ∧ Below w.heap.size w w' := by
 have hR := opR_size s 32 10 (by decide) hc
 obtain ⟨r, hr⟩ : ∃ r, opX s = r := exr
 have hz : r.size = 32 := by rw [← hr, ← hR.2]; exact hR.1
 have HZ := ϕ hz
 have HV := ϕ (show (bytesV r.data.toList).size = 32 by rw [qa_, qu_, hz])
 have HO := ϕ (show ∀ W, Below w.heap.size w W → Calls prog 130 #[.string s, .int .i64 32, .iface 271 (.pointer (some (a 10)))] W fun e w' => e = .returned (.tuple #[.string r, .nilIface]) ∧ Below W.heap.size W w' from fun W hW => by
  have := open_any W (eB a) (errsB (hE.below hW)) s hs 32 10 (by decide)
  rw [hc, hR.2, hr] at this
  exact this)
 rw [hr]
 have HE := ϕ (fun W (hW : Below w.heap.size w W) => show W.cell? ⟨11, 0, none⟩ = some (.iface 271 (.pointer (some (a 10)))) from (hE.below hW).cell 9 (by decide))
 clear hE hs hc hR hr hz
 go_enter func94, ntmps94
 go_upto_region 1 with (fail)
 generalize hX : World.alloc w _ = X
 have HBX := ϕ (show Below w.heap.size w X by subst hX; exact (Below.refl _ _).alloc (Nat.le_refl _) _)
 have HRX := ϕ (show ∃ cs : Array Value, cs.size = 32 ∧ Rg.Blk X w.heap.size 22 cs by subst hX; exact ⟨_, rfl, Rg.Blk.new _ _ _⟩)
 have hXs : w.heap.size < X.heap.size := by obtain ⟨cs, _, h⟩ := HRX.out; exact h.lt
 have e1 := HE.out X HBX.out
 clear hX
 go_wp2_with (first
  | (go_at_call 130; refine (HO.out _ HBX.out).mono ?_; rintro e w2 ⟨rfl, hb2⟩; have HB2 := ϕ hb2; clear hb2)
  | (refine conv_bytes rfl 9 28 5 _ rfl rfl underlying9 underlying28 underlying5 ?_; intro Y cap hY hfY hbY hnY hcY; have HY := ϕ hY; have HBY := ϕ hbY; clear hY hfY hbY hnY hcY)
  | (refine ju_ rfl 22 5 32 _ rfl _ _ _ _ rfl underlying22 (by rw [HZ.out]; decide) ?_)
  | (refine qi_ rfl 22 _ rfl _ 0 rfl (bytesV r.data.toList) _ HY.out.cells underlying22 rfl (by rw [HV.out]; kernel_rfl) ?_)
  | (obtain ⟨cs, hcs, hB⟩ := HRX.out
     refine qs_ rfl 22 _ _ rfl w.heap.size _ cs 22 rfl rfl ((hB.below HB2.out hXs).below HBY.out (by have := HB2.out.size; omega)) (by rw [HV.out]; kernel_rfl) (by rw [hcs, HV.out]) (qn_ _) ?_
     intro Z hZ hgZ; have HZZ := ϕ hZ; have HGZ := ϕ hgZ; clear hZ hgZ hcs hB))
 exact bodyPost_ret (v := .tuple #[.agg (bytesV r.data.toList), .nilIface])
  (jk_ results94 _ _ w.heap.size 22 _ (0, 0) _ rfl HZZ.out underlying22 rfl (by rw [HV.out]; kernel_rfl)) rfl
  ⟨rfl, ((HBX.out.trans (HB2.out.mono (by omega))).trans (HBY.out.mono (by have := HB2.out.size; omega))).grown HGZ.out (by have := HB2.out.size; have := HBY.out.size; omega) (fun k hk => by cases hk; exact Nat.le_refl _)⟩
theorem SignBlob_any (w : World) (l : List UInt8) (hl : l.length = 64) :
 Calls prog 46 #[.agg (bytesV l)] w fun e w' => e = .returned (.string (mkS (blobL l))) ∧ Below w.heap.size w w' := by
 have HL := ϕ hl
 have HBL := ϕ (show ∀ W, Calls prog 85 #[.string ⟨l.toArray⟩] W fun e w' => e = .returned (.string (mkS (blobL l))) ∧ Below W.heap.size W w' from fun W => blob_any W ⟨l.toArray⟩ (by show l.toArray.size ≤ 1000; rw [List.size_toArray]; omega))
 clear hl
 go_enter func46, ntmps46
 go_wp2_with (first
  | (refine Rg.qh_ rfl 29 _ rfl _ rfl ?_; intro V hK hbV hnV; have HK := ϕ hK; have HBV := ϕ hbV; clear hK hbV hnV)
  | (refine jr_ rfl 28 5 9 _ rfl underlying28 underlying5 underlying9 w.heap.size 0 64 64 l rfl HL.out (Bytes.of_blk HK.out) ?_; skip)
  | (go_at_call 85; refine (HBL.out _).mono ?_; rintro e w2 ⟨rfl, hb2⟩; have HB2 := ϕ (HBV.out.trans (hb2.mono HBV.out.size)); clear hb2))
 go_ret
 exact ⟨rfl, HB2.out⟩
theorem zero_sig : bytesV (zB 64) = #[.int .u8 0, .int .u8 0, .int .u8 0, .int .u8 0, .int .u8 0, .int .u8 0, .int .u8 0, .int .u8 0, .int .u8 0, .int .u8 0, .int .u8 0, .int .u8 0, .int .u8 0, .int .u8 0, .int .u8 0, .int .u8 0, .int .u8 0, .int .u8 0, .int .u8 0, .int .u8 0, .int .u8 0, .int .u8 0, .int .u8 0, .int .u8 0, .int .u8 0, .int .u8 0, .int .u8 0, .int .u8 0, .int .u8 0, .int .u8 0, .int .u8 0, .int .u8 0, .int .u8 0, .int .u8 0, .int .u8 0, .int .u8 0, .int .u8 0, .int .u8 0, .int .u8 0, .int .u8 0, .int .u8 0, .int .u8 0, .int .u8 0, .int .u8 0, .int .u8 0, .int .u8 0, .int .u8 0, .int .u8 0, .int .u8 0, .int .u8 0, .int .u8 0, .int .u8 0, .int .u8 0, .int .u8 0, .int .u8 0, .int .u8 0, .int .u8 0, .int .u8 0, .int .u8 0, .int .u8 0, .int .u8 0, .int .u8 0, .int .u8 0, .int .u8 0] := by unfold bytesV zB; rfl
theorem BlobSign_ok (w : World) (a : Nat → Addr) (hE : Ei.ErrsA w a) (s : ByteArray) (hs : s.size ≤ 1000000) (hc : opC s 64 11 = 0) :
 Calls prog 95 #[.string s] w fun e w' => e = .returned (.tuple #[.agg (bytesV (opX s).data.toList), .nilIface]) ∧ Below w.heap.size w w' := by
 have hR := opR_size s 64 11 (by decide) hc
 obtain ⟨r, hr⟩ : ∃ r, opX s = r := exr
 have hz : r.size = 64 := by rw [← hr, ← hR.2]; exact hR.1
 have HZ := ϕ hz
 have HV := ϕ (show (bytesV r.data.toList).size = 64 by rw [qa_, qu_, hz])
 have HO := ϕ (show ∀ W, Below w.heap.size w W → Calls prog 130 #[.string s, .int .i64 64, .iface 271 (.pointer (some (a 11)))] W fun e w' => e = .returned (.tuple #[.string r, .nilIface]) ∧ Below W.heap.size W w' from fun W hW => by
  have := open_any W (eB a) (errsB (hE.below hW)) s hs 64 11 (by decide)
  rw [hc, hR.2, hr] at this
  exact this)
 rw [hr]
 have HE := ϕ (fun W (hW : Below w.heap.size w W) => show W.cell? ⟨12, 0, none⟩ = some (.iface 271 (.pointer (some (a 11)))) from (hE.below hW).cell 10 (by decide))
 clear hE hs hc hR hr hz
 go_enter func95, ntmps95
 go_upto_region 1 with (fail)
 generalize hX : World.alloc w _ = X
 have HBX := ϕ (show Below w.heap.size w X by subst hX; exact (Below.refl _ _).alloc (Nat.le_refl _) _)
 have HRX := ϕ (show ∃ cs : Array Value, cs.size = 64 ∧ Rg.Blk X w.heap.size 29 cs by subst hX; exact ⟨_, rfl, Rg.Blk.new _ _ _⟩)
 have hXs : w.heap.size < X.heap.size := by obtain ⟨cs, _, h⟩ := HRX.out; exact h.lt
 have e1 := HE.out X HBX.out
 clear hX
 go_wp2_with (first
  | (go_at_call 130; refine (HO.out _ HBX.out).mono ?_; rintro e w2 ⟨rfl, hb2⟩; have HB2 := ϕ hb2; clear hb2)
  | (refine conv_bytes rfl 9 28 5 _ rfl rfl underlying9 underlying28 underlying5 ?_; intro Y cap hY hfY hbY hnY hcY; have HY := ϕ hY; have HBY := ϕ hbY; clear hY hfY hbY hnY hcY)
  | (refine ju_ rfl 29 5 64 _ rfl _ _ _ _ rfl underlying29 (by rw [HZ.out]; decide) ?_)
  | (refine qi_ rfl 29 _ rfl _ 0 rfl (bytesV r.data.toList) _ HY.out.cells underlying29 rfl (by rw [HV.out]; kernel_rfl) ?_)
  | (obtain ⟨cs, hcs, hB⟩ := HRX.out
     refine qs_ rfl 29 _ _ rfl w.heap.size _ cs 29 rfl rfl ((hB.below HB2.out hXs).below HBY.out (by have := HB2.out.size; omega)) (by rw [HV.out]; kernel_rfl) (by rw [hcs, HV.out]) (qn_ _) ?_
     intro Z hZ hgZ; have HZZ := ϕ hZ; have HGZ := ϕ hgZ; clear hZ hgZ hcs hB))
 exact bodyPost_ret (v := .tuple #[.agg (bytesV r.data.toList), .nilIface])
  (jk_ results95 _ _ w.heap.size 29 _ (0, 0) _ rfl HZZ.out underlying29 rfl (by rw [HV.out]; kernel_rfl)) rfl
  ⟨rfl, ((HBX.out.trans (HB2.out.mono (by omega))).trans (HBY.out.mono (by have := HB2.out.size; omega))).grown HGZ.out (by have := HB2.out.size; have := HBY.out.size; omega) (fun k hk => by cases hk; exact Nat.le_refl _)⟩
end Bl
namespace Au
open Go.RowKit Go.Proofs.YtciibogkfbicfaaGreatDoor.Wi Go.Proofs.YtciibogkfbicfaaGreatDoor.Ow Go.Proofs.YtciibogkfbicfaaGreatDoor.Be Go.Proofs.YtciibogkfbicfaaGreatDoor.Bl Go.Proofs.YtciibogkfbicfaaGreatDoor.Cv
theorem run_conv {P : Program} {o : Oper} {a : Act} {w : World} (src e dst : TypeId) (x : Operand) (ho : o.op = .convert src dst x)
 (hs : P.underlying src = some (.slice e)) (he : P.underlying e = some (.int .u8)) (hd : P.underlying dst = some .string) (b off len cap : Nat) (l : List UInt8)
 (hx : a.eval x = .slice (some ⟨b, off, none⟩) len cap) (hl : l.length = len) (hB : Bytes w b off l) : (execOp a.eval o).run P w = .ok (.value (.string ⟨l.toArray⟩)) w := by
 subst hl
 unfold execOp
 simp only [ho, hx, Sem.run_bind, run_string_bytes w src e dst hs he hd b off cap l hB, Result.andThen_ok, Sem.run_pure]
theorem Signed_any (w : World) (id key : List UInt8) (user : ByteArray) (hi : id.length = 32) (hk : key.length = 32) (hu : user.size ≤ 1000) :
 Calls prog 14 #[.agg (bytesV id), .string user, .agg (bytesV key)] w fun e w' => e = .returned (.string (mkS (sgdL id user.data.toList key))) ∧ Below w.heap.size w w' := by
 have z1 : ((⟨id.toArray⟩ : ByteArray)).size ≤ 1900 := by show id.toArray.size ≤ 1900; rw [List.size_toArray]; omega
 have z3 : (user).size ≤ 1900 := by omega
 have z4 : ((⟨#[115, 115, 104, 45, 99, 111, 110, 110, 101, 99, 116, 105, 111, 110]⟩ : ByteArray)).size ≤ 1900 := by decide
 have z5 : ((⟨#[112, 117, 98, 108, 105, 99, 107, 101, 121]⟩ : ByteArray)).size ≤ 1900 := by decide
 have z7 : ((⟨#[115, 115, 104, 45, 101, 100, 50, 53, 53, 49, 57]⟩ : ByteArray)).size ≤ 1900 := by decide
 have z8 : ((mkS (blobL key))).size ≤ 1900 := by rw [mkS_size, qx_]; omega
 have cc := conn_eq; have cm := meth_eq; have ca := algo_eq
 obtain ⟨l1, e1⟩ : ∃ l, [] ++ textL id = l := exr
 obtain ⟨l2, e2⟩ : ∃ l, l1 ++ [50] = l := exr
 obtain ⟨l3, e3⟩ : ∃ l, l2 ++ textL user.data.toList = l := exr
 obtain ⟨l4, e4⟩ : ∃ l, l3 ++ textL connB.data.toList = l := exr
 obtain ⟨l5, e5⟩ : ∃ l, l4 ++ textL methB.data.toList = l := exr
 obtain ⟨l6, e6⟩ : ∃ l, l5 ++ [1] = l := exr
 obtain ⟨l7, e7⟩ : ∃ l, l6 ++ textL algoB.data.toList = l := exr
 obtain ⟨l8, e8⟩ : ∃ l, l7 ++ textL (blobL key) = l := exr
 have n1 : l1.length ≤ 2000 := by
  rw [← e1, List.length_append]
  have := (show (textL id).length ≤ 1900 by rw [jd_]; omega)
  simp only [List.length_nil]; omega
 have n2 : l2.length ≤ 4000 := by
  rw [← e2, List.length_append]
  have := (show ([50] : List UInt8).length ≤ 1900 by decide)
  omega
 have n3 : l3.length ≤ 6000 := by
  rw [← e3, List.length_append]
  have := (show (textL user.data.toList).length ≤ 1900 by rw [jd_, qu_]; omega)
  omega
 have n4 : l4.length ≤ 8000 := by
  rw [← e4, List.length_append]
  have := (show (textL connB.data.toList).length ≤ 1900 by rw [jd_, qu_, conn_size]; decide)
  omega
 have n5 : l5.length ≤ 10000 := by
  rw [← e5, List.length_append]
  have := (show (textL methB.data.toList).length ≤ 1900 by rw [jd_, qu_, meth_size]; decide)
  omega
 have n6 : l6.length ≤ 12000 := by
  rw [← e6, List.length_append]
  have := (show ([1] : List UInt8).length ≤ 1900 by decide)
  omega
 have n7 : l7.length ≤ 14000 := by
  rw [← e7, List.length_append]
  have := (show (textL algoB.data.toList).length ≤ 1900 by rw [jd_, qu_, jj_]; decide)
  omega
 have n8 : l8.length ≤ 16000 := by
  rw [← e8, List.length_append]
  have := (show (textL (blobL key)).length ≤ 1900 by rw [jd_, qx_]; omega)
  omega
 have T1 := ϕ (show ∀ W B b, IsOut B b ([] : List UInt8) W → B ≤ W.heap.size → Calls prog 40 #[.pointer (some ⟨b, 0, none⟩), .string (⟨id.toArray⟩ : ByteArray)] W (Wrote B b l1 W) from fun W B b h1 h2 => by
  have hz : (⟨id.toArray⟩ : ByteArray).size ≤ 1900 := z1
  have hp : ([] : List UInt8).length ≤ 0 := Nat.le_refl _
  have := Text_any B b ([] : List UInt8) (⟨id.toArray⟩ : ByteArray) (by omega) W h1 (by omega) h2
  rw [show ([] : List UInt8) ++ textL ((⟨id.toArray⟩ : ByteArray)).data.toList = l1 from e1] at this
  exact this)
 have T2 := ϕ (show ∀ W B b, IsOut B b l1 W → B ≤ W.heap.size → Calls prog 41 #[.pointer (some ⟨b, 0, none⟩), .int .u8 50] W (Wrote B b l2 W) from fun W B b h1 h2 => by
  have hp : l1.length ≤ 2000 := n1
  have := Byte_any B b l1 50 50 rfl W h1 (by omega) h2
  rw [show l1 ++ [50] = l2 from e2] at this
  exact this)
 have T3 := ϕ (show ∀ W B b, IsOut B b l2 W → B ≤ W.heap.size → Calls prog 40 #[.pointer (some ⟨b, 0, none⟩), .string user] W (Wrote B b l3 W) from fun W B b h1 h2 => by
  have hz : user.size ≤ 1900 := z3
  have hp : l2.length ≤ 4000 := n2
  have := Text_any B b l2 user (by omega) W h1 (by omega) h2
  rw [show l2 ++ textL (user).data.toList = l3 from e3] at this
  exact this)
 have T4 := ϕ (show ∀ W B b, IsOut B b l3 W → B ≤ W.heap.size → Calls prog 40 #[.pointer (some ⟨b, 0, none⟩), .string (⟨#[115, 115, 104, 45, 99, 111, 110, 110, 101, 99, 116, 105, 111, 110]⟩ : ByteArray)] W (Wrote B b l4 W) from fun W B b h1 h2 => by
  have hz : (⟨#[115, 115, 104, 45, 99, 111, 110, 110, 101, 99, 116, 105, 111, 110]⟩ : ByteArray).size ≤ 1900 := z4
  have hp : l3.length ≤ 6000 := n3
  have := Text_any B b l3 (⟨#[115, 115, 104, 45, 99, 111, 110, 110, 101, 99, 116, 105, 111, 110]⟩ : ByteArray) (by omega) W h1 (by omega) h2
  rw [show l3 ++ textL ((⟨#[115, 115, 104, 45, 99, 111, 110, 110, 101, 99, 116, 105, 111, 110]⟩ : ByteArray)).data.toList = l4 by rw [cc]; exact e4] at this
  exact this)
 have T5 := ϕ (show ∀ W B b, IsOut B b l4 W → B ≤ W.heap.size → Calls prog 40 #[.pointer (some ⟨b, 0, none⟩), .string (⟨#[112, 117, 98, 108, 105, 99, 107, 101, 121]⟩ : ByteArray)] W (Wrote B b l5 W) from fun W B b h1 h2 => by
  have hz : (⟨#[112, 117, 98, 108, 105, 99, 107, 101, 121]⟩ : ByteArray).size ≤ 1900 := z5
  have hp : l4.length ≤ 8000 := n4
  have := Text_any B b l4 (⟨#[112, 117, 98, 108, 105, 99, 107, 101, 121]⟩ : ByteArray) (by omega) W h1 (by omega) h2
  rw [show l4 ++ textL ((⟨#[112, 117, 98, 108, 105, 99, 107, 101, 121]⟩ : ByteArray)).data.toList = l5 by rw [cm]; exact e5] at this
  exact this)
 have T6 := ϕ (show ∀ W B b, IsOut B b l5 W → B ≤ W.heap.size → Calls prog 42 #[.pointer (some ⟨b, 0, none⟩), .bool true] W (Wrote B b l6 W) from fun W B b h1 h2 => by
  have hp : l5.length ≤ 10000 := n5
  have := Bool_any B b l5 true W h1 (by omega) h2
  rw [show l5 ++ [if true then 1 else 0] = l6 from e6] at this
  exact this)
 have T7 := ϕ (show ∀ W B b, IsOut B b l6 W → B ≤ W.heap.size → Calls prog 40 #[.pointer (some ⟨b, 0, none⟩), .string (⟨#[115, 115, 104, 45, 101, 100, 50, 53, 53, 49, 57]⟩ : ByteArray)] W (Wrote B b l7 W) from fun W B b h1 h2 => by
  have hz : (⟨#[115, 115, 104, 45, 101, 100, 50, 53, 53, 49, 57]⟩ : ByteArray).size ≤ 1900 := z7
  have hp : l6.length ≤ 12000 := n6
  have := Text_any B b l6 (⟨#[115, 115, 104, 45, 101, 100, 50, 53, 53, 49, 57]⟩ : ByteArray) (by omega) W h1 (by omega) h2
  rw [show l6 ++ textL ((⟨#[115, 115, 104, 45, 101, 100, 50, 53, 53, 49, 57]⟩ : ByteArray)).data.toList = l7 by rw [ca]; exact e7] at this
  exact this)
 have T8 := ϕ (show ∀ W B b, IsOut B b l7 W → B ≤ W.heap.size → Calls prog 40 #[.pointer (some ⟨b, 0, none⟩), .string (mkS (blobL key))] W (Wrote B b l8 W) from fun W B b h1 h2 => by
  have hz : (mkS (blobL key)).size ≤ 1900 := z8
  have hp : l7.length ≤ 14000 := n7
  have := Text_any B b l7 (mkS (blobL key)) (by omega) W h1 (by omega) h2
  rw [show l7 ++ textL ((mkS (blobL key))).data.toList = l8 from e8] at this
  exact this)
 have hl : sgdL id user.data.toList key = l8 := by rw [← e8, ← e7, ← e6, ← e5, ← e4, ← e3, ← e2, ← e1]; rfl
 rw [hl]
 have KB := ϕ (fun W => KeyBlob_any W key hk)
 have BY := ϕ (show ∀ W B b, IsOut B b l8 W → B ≤ W.heap.size → Calls prog 44 #[.pointer (some ⟨b, 0, none⟩)] W fun e w' => e = .returned (.string (mkS l8)) ∧ Below B W w' from fun W B b h1 h2 => (Bytes_eq B b l8 _ rfl W (Bo.Read.of h1) h2).mono fun e w' ⟨h1, _, h3, _⟩ => ⟨h1, h3⟩)
 have HL := ϕ hi
 have HVk := ϕ (show (bytesV key).size = 32 by rw [qa_, hk])
 clear hl hi hk hu z1 z3 z4 z5 z7 z8 cc cm ca e1 e2 e3 e4 e5 e6 e7 e8 n1 n2 n3 n4 n5 n6 n7 n8
 have tokA := trivial
 go_enter func14, ntmps14
 go_upto_region 2 with (first
  | (have _t := tokA; refine Rg.qh_ rfl 22 _ rfl _ rfl ?_; intro V1 hK hbV hnV; have HK1 := ϕ hK; have HB1 := ϕ hbV; have tokB := trivial; clear hK hbV hnV _t tokA)
  | (have _t := tokB; refine Rg.qh_ rfl 22 _ rfl _ rfl ?_; intro V2 hK hbV hnV; have HK2 := ϕ hK; have HK1 := ϕ (HK1.out.below hbV HK1.out.lt); have HB2 := ϕ (HB1.out.trans (hbV.mono HB1.out.size)); clear hK hbV hnV _t tokB))
 obtain ⟨b1, hb1⟩ : ∃ n, V1.heap.size = n := exr
 obtain ⟨ob, hob⟩ : ∃ n, V2.heap.size = n := exr
 obtain ⟨Y, hY⟩ : ∃ Y, V2.alloc (.cells #[.pointer none, .slice none 0 0] 93) = Y := exr
 have HO := ϕ (show IsOut ob ob [] Y from by rw [← hob, ← hY]; exact outFresh V2)
 have HBY := ϕ (show Below w.heap.size w Y from by rw [← hY]; exact HB2.out.alloc HB2.out.size _)
 have HYS := ϕ (show ob ≤ Y.heap.size from by rw [← hob, ← hY]; exact ((Below.refl V2.heap.size V2).alloc (Nat.le_refl _) _).size)
 have HWO := ϕ (show w.heap.size ≤ ob from by rw [← hob]; exact HB2.out.size)
 have HL1 := ϕ (show w.heap.size < ob from by rw [← hob]; exact HK1.out.lt)
 have HL2 := ϕ (show b1 < ob from by rw [← hob, ← hb1]; exact HK2.out.lt)
 have HK1 := ϕ (show Rg.Blk Y w.heap.size 22 (bytesV id) from by rw [← hY]; exact HK1.out.below ((Below.refl V2.heap.size V2).alloc (Nat.le_refl _) _) HK1.out.lt)
 have HK2 := ϕ (show Rg.Blk Y b1 22 (bytesV key) from by rw [← hb1, ← hY]; exact HK2.out.below ((Below.refl V2.heap.size V2).alloc (Nat.le_refl _) _) HK2.out.lt)
 try rw [hb1]
 try rw [hob]
 try rw [hY]
 clear hb1 hob hY HB1 HB2
 refine RL.start (fun W => Below ob Y W) (by kernel_rfl) (Below.drew (Below.refl _ _)) ?_
 refine RL.tu 0 ?_; go_frame
 refine RL.tw 1 (v := .string ⟨id.toArray⟩) rfl (fun W hSW => run_conv 28 5 9 _ rfl underlying28 underlying5 underlying9 w.heap.size 0 32 32 id rfl HL.out (Bytes.of_blk (HK1.out.below hSW HL1.out))) ?_
 try go_frame
 refine RL.tu 4 ?_; go_frame
 refine RL.tw 10 (v := .agg (bytesV key)) rfl (fun W hSW => RT.qy_ 22 _ rfl _ rfl _ _ (HK2.out.below hSW HL2.out) underlying22 rfl (by rw [HVk.out]; kernel_rfl)) ?_
 try go_frame
 refine' RL.stepCall (i := 2) 40 #[.pointer (some ⟨ob, 0, none⟩), .string (⟨id.toArray⟩ : ByteArray)] rfl (by kernel_rfl) (by rfl) ?v2 ?c2
 case v2 => (intro W; go_simp; try with_reducible rfl)
 intro a1 hl1 hs1
 refine (T1.out a1 ob ob ((IsOut.below HO.out (Below.drew (Below.refl _ _))).below hl1) (Nat.le_trans HYS.out (Below.size hs1))).mono ?_
 rintro e w1 ⟨rfl, h1, hc1⟩
 refine ⟨_, rfl, Below.trans hs1 hc1.below, ?_⟩
 try go_frame
 refine' RL.stepCall (i := 3) 41 #[.pointer (some ⟨ob, 0, none⟩), .int .u8 50] rfl (by kernel_rfl) (by rfl) ?v3 ?c3
 case v3 => (intro W; go_simp; try with_reducible rfl)
 intro a2 hl2 hs2
 refine (T2.out a2 ob ob (IsOut.below h1 hl2) (Nat.le_trans HYS.out (Below.size hs2))).mono ?_
 rintro e w2 ⟨rfl, h2, hc2⟩
 refine ⟨_, rfl, Below.trans hs2 hc2.below, ?_⟩
 try go_frame
 refine' RL.stepCall (i := 5) 40 #[.pointer (some ⟨ob, 0, none⟩), .string user] rfl (by kernel_rfl) (by rfl) ?v5 ?c5
 case v5 => (intro W; go_simp; try with_reducible rfl)
 intro a3 hl3 hs3
 refine (T3.out a3 ob ob (IsOut.below h2 hl3) (Nat.le_trans HYS.out (Below.size hs3))).mono ?_
 rintro e w3 ⟨rfl, h3, hc3⟩
 refine ⟨_, rfl, Below.trans hs3 hc3.below, ?_⟩
 try go_frame
 refine' RL.stepCall (i := 6) 40 #[.pointer (some ⟨ob, 0, none⟩), .string (⟨#[115, 115, 104, 45, 99, 111, 110, 110, 101, 99, 116, 105, 111, 110]⟩ : ByteArray)] rfl (by kernel_rfl) (by rfl) ?v6 ?c6
 case v6 => (intro W; go_simp; try with_reducible rfl)
 intro a4 hl4 hs4
 refine (T4.out a4 ob ob (IsOut.below h3 hl4) (Nat.le_trans HYS.out (Below.size hs4))).mono ?_
 rintro e w4 ⟨rfl, h4, hc4⟩
 refine ⟨_, rfl, Below.trans hs4 hc4.below, ?_⟩
 try go_frame
 refine' RL.stepCall (i := 7) 40 #[.pointer (some ⟨ob, 0, none⟩), .string (⟨#[112, 117, 98, 108, 105, 99, 107, 101, 121]⟩ : ByteArray)] rfl (by kernel_rfl) (by rfl) ?v7 ?c7
 case v7 => (intro W; go_simp; try with_reducible rfl)
 intro a5 hl5 hs5
 refine (T5.out a5 ob ob (IsOut.below h4 hl5) (Nat.le_trans HYS.out (Below.size hs5))).mono ?_
 rintro e w5 ⟨rfl, h5, hc5⟩
 refine ⟨_, rfl, Below.trans hs5 hc5.below, ?_⟩
 try go_frame
 refine' RL.stepCall (i := 8) 42 #[.pointer (some ⟨ob, 0, none⟩), .bool true] rfl (by kernel_rfl) (by rfl) ?v8 ?c8
 case v8 => (intro W; go_simp; try with_reducible rfl)
 intro a6 hl6 hs6
 refine (T6.out a6 ob ob (IsOut.below h5 hl6) (Nat.le_trans HYS.out (Below.size hs6))).mono ?_
 rintro e w6 ⟨rfl, h6, hc6⟩
 refine ⟨_, rfl, Below.trans hs6 hc6.below, ?_⟩
 try go_frame
 refine' RL.stepCall (i := 9) 40 #[.pointer (some ⟨ob, 0, none⟩), .string (⟨#[115, 115, 104, 45, 101, 100, 50, 53, 53, 49, 57]⟩ : ByteArray)] rfl (by kernel_rfl) (by rfl) ?v9 ?c9
 case v9 => (intro W; go_simp; try with_reducible rfl)
 intro a7 hl7 hs7
 refine (T7.out a7 ob ob (IsOut.below h6 hl7) (Nat.le_trans HYS.out (Below.size hs7))).mono ?_
 rintro e w7 ⟨rfl, h7, hc7⟩
 refine ⟨_, rfl, Below.trans hs7 hc7.below, ?_⟩
 try go_frame
 refine' RL.stepCall (i := 11) 43 #[.agg (bytesV key)] rfl (by kernel_rfl) (by rfl) ?v11 ?c11
 case v11 => (intro W; go_simp; try with_reducible rfl)
 intro ak hlk hsk
 refine (KB.out ak).mono ?_
 rintro e wk ⟨rfl, hbk⟩
 refine ⟨_, rfl, Below.trans hsk (hbk.mono (Nat.le_trans HYS.out (Below.size hsk))), ?_⟩
 try go_frame
 refine' RL.stepCall (i := 12) 40 #[.pointer (some ⟨ob, 0, none⟩), .string (mkS (blobL key))] rfl (by kernel_rfl) (by rfl) ?v12 ?c12
 case v12 => (intro W; go_simp; try with_reducible rfl)
 intro a8 hl8 hs8
 refine (T8.out a8 ob ob (((IsOut.below h7 hlk).below hbk).below hl8) (Nat.le_trans HYS.out (Below.size hs8))).mono ?_
 rintro e w8 ⟨rfl, h8, hc8⟩
 refine ⟨_, rfl, Below.trans hs8 hc8.below, ?_⟩
 try go_frame
 refine' RL.stepCall (i := 13) 44 #[.pointer (some ⟨ob, 0, none⟩)] rfl (by kernel_rfl) (by rfl) ?v13 ?c13
 case v13 => (intro W; go_simp; try with_reducible rfl)
 intro ay hly hsy
 refine (BY.out ay ob ob (IsOut.below h8 hly) (Nat.le_trans HYS.out (Below.size hsy))).mono ?_
 rintro e wy ⟨rfl, hby⟩
 refine ⟨_, rfl, Below.trans hsy hby, ?_⟩
 try go_frame
 refine RL.tu 14 ?_; go_frame
 refine RL.done (by kernel_rfl) (fun Z hlZ hsZ => ?_)
 have HZ := ϕ (HBY.out.trans (Below.mono hsZ HWO.out))
 clear hlZ hsZ hsy hby hly
 go_wp2_with fail
 go_ret
 exact ⟨rfl, HZ.out⟩
open Go.Proofs.YtciibogkfbicfaaGreatDoor.Kx
def askV (k : Int) (g n : Nat) : Array Value := #[.int .i64 k, .slice none 0 0, .slice (some ⟨g, 0, none⟩) n n, .slice none 0 0, .slice none 0 0]
def askZ : Array Value := #[.int .i64 0, .slice none 0 0, .slice none 0 0, .slice none 0 0, .slice none 0 0]
theorem ask_any (w : World) (user rest : ByteArray) :
 Calls prog 45 #[.string user, .string rest] w fun e w' => ∃ g, e = .returned (.agg (askV 50 g 4)) ∧ w.heap.size ≤ g ∧ Rg.Blk w' g 9 #[.string user, .string connB, .string methB, .string rest] ∧ Below w.heap.size w w' := by
 go_enter func45, ntmps45
 go_wp2_with fail
 rw [conn_eq, meth_eq]
 refine bodyPost_ret (v := .agg (askV 50 (w.heap.size + 1) 4))
  (results_cell_row results45 _ _ w.heap.size 39 _ (0, 0) _ rfl ((Rg.Blk.new w (askV 50 (w.heap.size + 1) 4) 39).below ((Below.refl _ _).alloc (Nat.le_refl _) _) (Rg.Blk.new w (askV 50 (w.heap.size + 1) 4) 39).lt) underlying39 rfl (by kernel_rfl)) rfl ?_
 exact ⟨w.heap.size + 1, rfl, Nat.le_succ _, Rg.Blk.newAt (by show _ = (w.heap.push _).size; rw [Array.size_push]) _ _, ((Below.refl _ _).alloc (Nat.le_refl _) _).alloc (by show _ ≤ (w.heap.push _).size; rw [Array.size_push]; omega) _⟩
def QS (Y : World) (rb ob : Nat) (W : World) : Prop := Sp.Upd Y W [rb, ob] ∧ ∃ cs : Array Value, cs.size = 5 ∧ Rg.Blk W rb 39 cs
theorem QS.below {Y W W' : World} {rb ob : Nat} (hs : Y.heap.size = ob + 1) (hr : rb < ob) (h : QS Y rb ob W) (hb : Below ob W W') : QS Y rb ob W' := by
 obtain ⟨h1, cs, h2, h3⟩ := h
 refine ⟨⟨by rw [← h1.os]; exact hb.os, ?_, ?_, Nat.le_trans h1.size hb.size, fun k hk hn => ?_⟩, cs, h2, h3.below hb hr⟩
 · first | exact h1.tape.trans hb.tape | exact fun x => hb.tape (h1.tape x) | (rw [← h1.tape]; exact hb.tape)
 · first | exact hb.output.trans h1.output | (rw [← h1.output]; exact hb.output)
 · have hk2 : k < ob := by
    have : k ≠ ob := fun e => hn (by rw [e]; simp)
    omega
   rw [hb.block k hk2]
   exact h1.block k hk hn
end Au
namespace Kx
open Go.RowKit Go.Proofs.YtciibogkfbicfaaGreatDoor.Cl Go.Proofs.YtciibogkfbicfaaGreatDoor.Ed
def els : List E → List Nat
 | [] => []
 | x :: l => x.l ++ els l
theorem els_len : ∀ l : List E, (els l).length = 5 * l.length
 | [] => rfl
 | x :: l => by show (x.l ++ els l).length = _; rw [List.length_append, els_len l, E.len, List.length_cons]; omega
theorem els_app : ∀ a b : List E, els (a ++ b) = els a ++ els b
 | [], _ => rfl
 | x :: l, b => by show x.l ++ els (l ++ b) = (x.l ++ els l) ++ els b; rw [els_app l b, List.append_assoc]
theorem u64s_app (a b : List Nat) : u64s (a ++ b) = u64s a ++ u64s b := by unfold u64s; simp
theorem u64s_len (a : List Nat) : (u64s a).size = a.length := by unfold u64s; simp
theorem els_at {w : World} {b T : Nat} {L : List E} (h : Rg.Blk w b T (u64s (els L))) (k off : Nat) (M : List E) (hM : (L.drop k).take M.length = M) (ho : off = 5 * k) (hk : k ≤ L.length) : ∀ j v, (u64s (els M))[j]? = some v → w.cell? ⟨b, off + j, none⟩ = some v := by
 intro j v hv
 have h1 : L = L.take k ++ (M ++ (L.drop k).drop M.length) := by
  have := List.take_append_drop M.length (L.drop k)
  rw [hM] at this
  rw [this, List.take_append_drop]
 have h2 : u64s (els L) = u64s (els (L.take k)) ++ (u64s (els M) ++ u64s (els ((L.drop k).drop M.length))) := by
  rw [← u64s_app, ← u64s_app, ← els_app, ← els_app, ← h1]
 have h3 : (u64s (els (L.take k))).size = off := by rw [u64s_len, els_len, List.length_take, ho, Nat.min_eq_left hk]
 refine Rg.Blk.cell h (off + j) ?_
 rw [h2, Array.getElem?_append_right (by omega), h3, Nat.add_sub_cancel_left]
 rw [Array.getElem?_append_left]
 · exact hv
 · exact (Array.getElem?_eq_some_iff.1 hv).1
theorem qe_ {w : World} {b T : Nat} {L : List E} (h : Rg.Blk w b T (u64s (els L))) (k off : Nat) (x : E) (hM : (L.drop k).take 1 = [x]) (ho : off = 5 * k) (hk : k ≤ L.length) : ∀ j v, (u64s x.l)[j]? = some v → w.cell? ⟨b, off + j, none⟩ = some v := by
 intro j v hv
 refine els_at h k off [x] hM ho hk j v ?_
 show (u64s (x.l ++ []))[j]? = _
 rw [List.append_nil]; exact hv
theorem qj_ (x : E) : els [x] = x.l := by show x.l ++ [] = _; rw [List.append_nil]
theorem qp_ (L : List E) : (u64s (els L)).all (·.oneCell') = true := u64s_one _
def zE : E := ⟨0, 0, 0, 0, 0⟩
structure El (x : E) (a : F) : Prop where
 t : tid x
 f : x.f = a
theorem El.ok {x : E} {a : F} (h : El x a) : x.ok := h.t.ok
theorem El.of {x : E} {a : F} (h : tid x ∧ x.f = a) : El x a := ⟨h.1, h.2⟩
theorem zE_e : El zE 0 := ⟨zero_tid, zero_f⟩
theorem add_e {x y : E} {a b : F} (hx : El x a) (hy : El y b) : ∃ r, El r (a + b) ∧ ∀ W : World, Calls prog 71 #[.agg (u64s x.l), .agg (u64s y.l)] W fun e w' => e = .returned (.agg (u64s r.l)) ∧ Below W.heap.size W w' :=
 ⟨add x y, El.of (by rw [← hx.f, ← hy.f]; exact add_f hx.t hy.t), fun W => Add_any W x y⟩
theorem sub_e {x y : E} {a b : F} (hx : El x a) (hy : El y b) : ∃ r, El r (a - b) ∧ ∀ W : World, Calls prog 109 #[.agg (u64s x.l), .agg (u64s y.l)] W fun e w' => e = .returned (.agg (u64s r.l)) ∧ Below W.heap.size W w' :=
 ⟨sub x y, El.of (by rw [← hx.f, ← hy.f]; exact sub_f hx.t hy.t), fun W => Sub_any W x y⟩
theorem mul_e {x y : E} {a b : F} (hx : El x a) (hy : El y b) : ∃ r, El r (a * b) ∧ ∀ W : World, Calls prog 69 #[.agg (u64s x.l), .agg (u64s y.l)] W fun e w' => e = .returned (.agg (u64s r.l)) ∧ Below W.heap.size W w' :=
 ⟨mul x y, El.of (by rw [← hx.f, ← hy.f]; exact mul_f hx.t hy.t), fun W => Mul_any W x y hx.ok hy.ok⟩
theorem sq_e {x : E} {a : F} (hx : El x a) : ∃ r, El r (a * a) ∧ ∀ W : World, Calls prog 115 #[.agg (u64s x.l)] W fun e w' => e = .returned (.agg (u64s r.l)) ∧ Below W.heap.size W w' :=
 ⟨sq x, El.of (by rw [← hx.f]; exact sq_f hx.t), fun W => Square_any W x hx.ok⟩
theorem small_e (n : Nat) (hn : n < 2251799813685248) {a : F} (ha : fe n = a) : ∃ r, El r a ∧ ∀ W : World, Calls prog 67 #[.int .u64 n] W fun e w' => e = .returned (.agg (u64s r.l)) ∧ Below W.heap.size W w' :=
 ⟨small n, El.of ⟨small_tid hn, (small_f hn).trans ha⟩, fun W => Small_any W n (Nat.lt_trans hn (by unfold M; decide))⟩
theorem inv_e {x : E} {a : F} (hx : El x a) : ∃ r, El r (Ed.inv a) ∧ ∀ W : World, Calls prog 70 #[.agg (u64s x.l)] W fun e w' => e = .returned (.agg (u64s r.l)) ∧ Below W.heap.size W w' :=
 ⟨inv x, El.of (by rw [← hx.f]; exact inv_f hx.t), fun W => Invert_any W x hx.ok⟩
theorem choose_e {x y : E} (f : Bool) : ∀ W : World, Calls prog 143 #[.bool f, .agg (u64s x.l), .agg (u64s y.l)] W fun e w' => e = .returned (.agg (u64s (if f = true then x else y).l)) ∧ Below W.heap.size W w' := fun W => Choose_any W f x y
theorem of_e (t : ByteArray) (ht : t.size = 32) : ∃ r, El r (fe (leN t.data.toList % 2 ^ 255)) ∧ ∀ W : World, Calls prog 132 #[.string t] W fun e w' => e = .returned (.agg (u64s r.l)) ∧ Below W.heap.size W w' :=
 ⟨ofB t.data.toList, El.of ⟨ofB_tid _, ofB_f _⟩, fun W => Of_any W t ht⟩
theorem bytes_e {x : E} {a : F} (hx : El x a) : ∀ W : World, Calls prog 78 #[.agg (u64s x.l)] W fun e w' => e = .returned (.agg (Cv.bytesV (toLe 32 a.val))) ∧ Below W.heap.size W w' := fun W => by
 have h := Bytes_any W x
 rwa [bytes_f hx.t, hx.f] at h
theorem pwa_any (w : World) (x : E) (hx : x.ok) : Calls prog 114 #[.agg (u64s x.l), .int .u64 20, .int .i64 2] w fun e w' => e = .returned (.agg (u64s (pw 236 x 253).l)) ∧ Below w.heap.size w w' :=
 powerG w x hx 236 20 2 253 (.inr (.inl ⟨rfl, rfl, rfl, rfl⟩))
theorem bits236 : BitsOf 236 (2 ^ 255 - 20) := bitsOf _ _ (by decide +kernel)
theorem pwa_e {x : E} {a : F} (hx : El x a) : ∃ r, El r (fpow a ((2 ^ 255 - 20) / 2 ^ 2)) ∧ ∀ W : World, Calls prog 114 #[.agg (u64s x.l), .int .u64 20, .int .i64 2] W fun e w' => e = .returned (.agg (u64s r.l)) ∧ Below W.heap.size W w' :=
 ⟨pw 236 x 253, El.of (by rw [← hx.f]; exact pw_f bits236 hx.t 253 (by decide)), fun W => pwa_any W x hx.ok⟩
theorem pwb_any (w : World) (x : E) (hx : x.ok) : Calls prog 114 #[.agg (u64s x.l), .int .u64 24, .int .i64 3] w fun e w' => e = .returned (.agg (u64s (pw 232 x 252).l)) ∧ Below w.heap.size w w' :=
 powerG w x hx 232 24 3 252 (.inr (.inr ⟨rfl, rfl, rfl, rfl⟩))
theorem bits232 : BitsOf 232 (2 ^ 255 - 24) := bitsOf _ _ (by decide +kernel)
theorem pwb_e {x : E} {a : F} (hx : El x a) : ∃ r, El r (fpow a ((2 ^ 255 - 24) / 2 ^ 3)) ∧ ∀ W : World, Calls prog 114 #[.agg (u64s x.l), .int .u64 24, .int .i64 3] W fun e w' => e = .returned (.agg (u64s r.l)) ∧ Below W.heap.size W w' :=
 ⟨pw 232 x 252, El.of (by rw [← hx.f]; exact pw_f bits232 hx.t 252 (by decide)), fun W => pwb_any W x hx.ok⟩
theorem choose2_e {x y : E} {a b : F} (f : Bool) (hx : El x a) (hy : El y b) : ∃ r, El r (if f = true then a else b) ∧ ∀ W : World, Calls prog 143 #[.bool f, .agg (u64s x.l), .agg (u64s y.l)] W fun e w' => e = .returned (.agg (u64s r.l)) ∧ Below W.heap.size W w' :=
 ⟨if f = true then x else y, by cases f <;> assumption, choose_e f⟩
theorem wp_val {P : Program} {o : Oper} {a : Act} {w : World} {K : Act → World → Prop} {Q : Exit → Act → World → Prop} {v : Value} (h : (execOp a.eval o).run P w = .ok (.value v) w) (hk : K (a.put o.dst v) w) : Oper.wp P o a w K Q := by
 unfold Oper.wp
 rw [h]
 exact hk
theorem ji_ {P : Program} {ops : Array Oper} {rest : List Oper} {o : Oper} {a : Act} {w : World} {Q : Exit → Act → World → Prop} (hgd : o.guard = none) (t : TypeId) (parts : Array (Nat × Operand)) (ho : o.op = .build t parts) (vals : Array (Nat × Value)) (hv : (parts.map fun (x : Nat × Operand) => (x.1, a.eval x.2)) = vals) (cells : Array Value) (h : P.built t vals.toList = some cells)
 (hk : wpList P ops Q rest (a.put o.dst (.agg cells)) w) : wpList P ops Q (o :: rest) a w :=
 wpList_plain hgd fun _ hK => by
  have hr := run_build_op (o := o) (a := a) (w := w) t parts ho vals hv cells h
  unfold Oper.wp
  rw [hr]
  exact hK _ _ hk
theorem neg_e {x : E} {a : F} (hx : El x a) : ∃ r, El r (0 - a) ∧ ∀ W : World, Calls prog 68 #[.agg (u64s x.l)] W fun e w' => e = .returned (.agg (u64s r.l)) ∧ Below W.heap.size W w' := by
 have Ex := ϕ hx
 clear hx
 have EzE := ϕ zE_e
 obtain ⟨v5, ev5, cv5⟩ := sub_e EzE.out Ex.out
 have Ev5 := ϕ ev5
 have Cv5 := ϕ cv5
 clear ev5 cv5
 refine ⟨v5, Ev5.out, fun w => ?_⟩
 go_enter func68, ntmps68
 have tb0 := trivial
 go_upto_region 1 with (clear tb0; (with_reducible refine qd_ ?_); refine Rg.qh_ rfl 76 _ rfl (u64s (els [x])) (by first | rfl | (rw [qj_])) ?_; intro X1 hX hbX hnX; have J0 := ϕ hX; have K0 := ϕ hbX; have M0 := ϕ hnX; clear hX hbX hnX; have tb1 := trivial)
 clear tb1
 have HB := ϕ (Below.refl w.heap.size w)
 obtain ⟨b1, hb1⟩ : ∃ n, w.heap.size = n := exr
 have Hb1 := ϕ (show Rg.Blk X1 b1 76 (u64s (els [x])) from hb1 ▸ J0.out)
 have HB := ϕ (HB.out.trans (K0.out.mono HB.out.size))
 rw [hb1]
 clear hb1 J0 K0 M0
 obtain ⟨b2, hb2⟩ : ∃ n, X1.heap.size = n := exr
 have Gb2 := ϕ (show w.heap.size ≤ b2 from hb2 ▸ HB.out.size)
 have Hb1 := ϕ (Hb1.out.alloc (.cells #[.int .u64 0, .int .u64 0, .int .u64 0, .int .u64 0, .int .u64 0] 76))
 have Hb2 := ϕ (show Rg.Blk (X1.alloc (.cells #[.int .u64 0, .int .u64 0, .int .u64 0, .int .u64 0, .int .u64 0] 76)) b2 76 (u64s (els [zE])) from Rg.Blk.newAt hb2.symm _ _)
 have HB := ϕ (HB.out.alloc HB.out.size (.cells #[.int .u64 0, .int .u64 0, .int .u64 0, .int .u64 0, .int .u64 0] 76))
 rw [hb2]
 clear hb2
 generalize (X1.alloc (.cells #[.int .u64 0, .int .u64 0, .int .u64 0, .int .u64 0, .int .u64 0] 76)) = Y2 at *
 have tk3_0 := trivial
 go_wp2_with (first
  | (clear tk3_0; (with_reducible refine qd_ ?_); refine lxA (u64s x.l) (qe_ (Hb1.out) 0 0 x rfl rfl (by simp)) ?_; have tk3_1 := trivial)
  | (clear tk3_1; go_at_call 109; refine (Cv5.out Y2).mono ?_; rintro e W4 ⟨rfl, hb9⟩; have Hb1 := bl Hb1 hb9; have Hb2 := bl Hb2 hb9; have HB := tm HB hb9; clear hb9; have tk3_2 := trivial)
  | (clear tk3_2; (with_reducible refine qd_ ?_); refine Cv.qs_ rfl 76 _ _ rfl b2 (u64s (els [v5])) (u64s (els [zE])) 76 rfl (by first | rfl | (rw [qj_])) Hb2.out (by kernel_rfl) (by first | rfl | kernel_rfl) (qp_ _) ?_; intro X5 hV hgV; have Hb2 := ϕ hV; have HB := ϕ (HB.out.grown hgV HB.out.size (fun j e => by cases e; exact Gb2.out)); clear hV hgV; have tk3_3 := trivial))
 clear tk3_3
 refine bodyPost_ret (v := .agg (u64s (els [v5])))
  (results_cell_row results68 _ _ b2 76 _ (0, 0) _ rfl Hb2.out underlying76 rfl (by kernel_rfl)) rfl ?_
 exact ⟨rfl, HB.out⟩
theorem odd_e {x : E} {a : F} (hx : El x a) : ∃ r, (a.val % 2 == 1) = r ∧ ∀ W : World, Calls prog 79 #[.agg (u64s x.l)] W fun e w' => e = .returned (.bool r) ∧ Below W.heap.size W w' := by
 obtain ⟨r, hr⟩ : ∃ r, (a.val % 2 == 1) = r := exr
 obtain ⟨⟨n0, n1, n2, n3, n4⟩, hv4⟩ : ∃ z, least x = z := exr
 refine ⟨r, hr, fun w => ?_⟩
 have Cv4 := ϕ (show ∀ W : World, Calls prog 119 #[.agg (u64s x.l)] W fun e w' => e = .returned (.agg #[.int .u64 (n0 : Nat), .int .u64 (n1 : Nat), .int .u64 (n2 : Nat), .int .u64 (n3 : Nat), .int .u64 (n4 : Nat)]) ∧ Below W.heap.size W w' from fun W => by
  have h := least_any W x
  rw [hv4] at h
  exact h)
 have HODD : n0 % 2 = a.val % 2 := by
  have h := odd_go hx.t
  rw [hv4, hx.f] at h
  exact h
 have HL : E.ok ⟨n0, n1, n2, n3, n4⟩ := hv4 ▸ least_ok x
 have hn1 : n0 < M := HL 0
 have han : bits .and .u64 (n0 : Int) 1 = ((n0 % 2 : Nat) : Int) := by rw [← Nat.and_one_is_mod]; exact u64_and_nat n0 1 hn1 (by decide)
 have hbb : ((n0 : Int) % 2 == 1) = r := by
  rw [show ((n0 : Int) % 2) = ((n0 % 2 : Nat) : Int) by omega, HODD, ← hr]
  by_cases h : a.val % 2 = 1
  · rw [h]; rfl
  · have : a.val % 2 = 0 := by omega
    rw [this]; rfl
 have HBB := ϕ hbb
 clear hx hv4 HODD HL hbb
 have hfd : ∀ W : World, (Instr.field 76 (.agg #[.int .u64 (n0 : Nat), .int .u64 (n1 : Nat), .int .u64 (n2 : Nat), .int .u64 (n3 : Nat), .int .u64 (n4 : Nat)]) 0).run prog W = .ok (.agg #[.int .u64 (n0 : Nat), .int .u64 (n1 : Nat), .int .u64 (n2 : Nat), .int .u64 (n3 : Nat), .int .u64 (n4 : Nat)]) W := fun _ => by kernel_rfl
 have hfi : ∀ W : World, (Instr.index 74 (.agg #[.int .u64 (n0 : Nat), .int .u64 (n1 : Nat), .int .u64 (n2 : Nat), .int .u64 (n3 : Nat), .int .u64 (n4 : Nat)]) (.int .i64 0)).run prog W = .ok (.int .u64 (n0 : Nat)) W := fun _ => by kernel_rfl
 go_enter func79, ntmps79
 have tb0 := trivial
 go_upto_region 1 with (clear tb0; (with_reducible refine qd_ ?_); refine Rg.qh_ rfl 76 _ rfl (u64s (els [x])) (by first | rfl | (rw [qj_])) ?_; intro X1 hX hbX hnX; have J0 := ϕ hX; have K0 := ϕ hbX; have M0 := ϕ hnX; clear hX hbX hnX; have tb1 := trivial)
 clear tb1
 have HB := ϕ (Below.refl w.heap.size w)
 obtain ⟨b1, hb1⟩ : ∃ n, w.heap.size = n := exr
 have Hb1 := ϕ (show Rg.Blk X1 b1 76 (u64s (els [x])) from hb1 ▸ J0.out)
 have HB := ϕ (HB.out.trans (K0.out.mono HB.out.size))
 rw [hb1]
 clear hb1 J0 K0 M0
 have tk2_0 := trivial
 go_wp2_with (first
  | (clear tk2_0; (with_reducible refine qd_ ?_); refine lxA (u64s x.l) (qe_ (Hb1.out) 0 0 x rfl rfl (by simp)) ?_; have tk2_1 := trivial)
  | (clear tk2_1; go_at_call 119; refine (Cv4.out X1).mono ?_; rintro e W3 ⟨rfl, hb9⟩; have Hb1 := bl Hb1 hb9; have HB := tm HB hb9; clear hb9; have tk2_2 := trivial))
 clear tk2_2
 go_ret
 exact ⟨congrArg (fun b => Ending.returned (.bool b)) HBB.out, HB.out⟩
theorem same_e {x y : E} {a b : F} (hx : El x a) (hy : El y b) : ∃ r, decide (a = b) = r ∧ ∀ W : World, Calls prog 141 #[.agg (u64s x.l), .agg (u64s y.l)] W fun e w' => e = .returned (.bool r) ∧ Below W.heap.size W w' := by
 obtain ⟨v6, hv6⟩ : ∃ z, least x = z := exr
 have Cv6 := ϕ (show ∀ W : World, Calls prog 119 #[.agg (u64s x.l)] W fun e w' => e = .returned (.agg (u64s v6.l)) ∧ Below W.heap.size W w' from fun W => hv6 ▸ least_any W x)
 obtain ⟨v8, hv8⟩ : ∃ z, least y = z := exr
 have Cv8 := ϕ (show ∀ W : World, Calls prog 119 #[.agg (u64s y.l)] W fun e w' => e = .returned (.agg (u64s v8.l)) ∧ Below W.heap.size W w' from fun W => hv8 ▸ least_any W y)
 obtain ⟨r, hr⟩ : ∃ r, decide (a = b) = r := exr
 refine ⟨r, hr, fun w => ?_⟩
 have HEQ := ϕ (show ∀ W : World, (Op.equalIn 9999 74 (.agg ((u64s v6.l).extract 0 5)) (.agg ((u64s v8.l).extract 0 5))).run prog W = .ok r W from fun W => by
  have h := run_equalInA W v6 v8 (hv6 ▸ least_ok x) (hv8 ▸ least_ok y)
  rw [show (u64s v8.l).extract 0 5 = u64s v8.l from by cases v8; rfl, h, ← hr]
  congr 1
  by_cases h1 : a = b
  · rw [decide_eq_true h1, ← hv6, ← hv8, (least_same hx.t hy.t).2 (by rw [hx.f, hy.f, h1])]
    exact beq_self_eq_true _
  · rw [decide_eq_false h1]
    have h2 : ¬ v6 = v8 := fun e => h1 (by
     rw [← hv6, ← hv8] at e
     have := (least_same hx.t hy.t).1 e
     rwa [hx.f, hy.f] at this)
    exact beq_eq_false_iff_ne.2 h2)
 clear hx hy hv6 hv8 hr
 go_enter func141, ntmps141
 have tb0 := trivial
 go_upto_region 1 with (first
  | (clear tb0; (with_reducible refine qd_ ?_); refine Rg.qh_ rfl 76 _ rfl (u64s (els [x])) (by first | rfl | (rw [qj_])) ?_; intro X1 hX hbX hnX; have J0 := ϕ hX; have K0 := ϕ hbX; have M0 := ϕ hnX; clear hX hbX hnX; have tb1 := trivial)
  | (clear tb1; (with_reducible refine qd_ ?_); refine Rg.qh_ rfl 76 _ rfl (u64s (els [y])) (by first | rfl | (rw [qj_])) ?_; intro X2 hX hbX hnX; have J1 := ϕ hX; have K1 := ϕ hbX; have M1 := ϕ hnX; clear hX hbX hnX; have tb2 := trivial))
 clear tb2
 have HB := ϕ (Below.refl w.heap.size w)
 obtain ⟨b2, hb2⟩ : ∃ n, w.heap.size = n := exr
 have Hb2 := ϕ (show Rg.Blk X1 b2 76 (u64s (els [x])) from hb2 ▸ J0.out)
 have HB := ϕ (HB.out.trans (K0.out.mono HB.out.size))
 rw [hb2]
 clear hb2 J0 K0 M0
 obtain ⟨b3, hb3⟩ : ∃ n, X1.heap.size = n := exr
 have Hb2 := bl Hb2 K1.out
 have Hb3 := ϕ (show Rg.Blk X2 b3 76 (u64s (els [y])) from hb3 ▸ J1.out)
 have HB := ϕ (HB.out.trans (K1.out.mono HB.out.size))
 rw [hb3]
 clear hb3 J1 K1 M1
 refine RL.start (RL.Aft X2) (by kernel_rfl) (RL.Aft.drew (RL.Aft.refl X2)) ?_
 refine RL.tw 0 (v := .agg (u64s x.l)) rfl (fun W hSW => qo_ 76 _ rfl b2 0 rfl (u64s x.l) (qe_ (qc_ hSW Hb2.out) 0 0 x rfl rfl (by simp)) underlying76 rfl (by kernel_rfl)) ?_
 try go_frame
 refine' RL.td 1 (v := (.agg (u64s v6.l))) 119 #[.agg (u64s x.l)] ?hc1 ?_
 case hc1 => (intro W hSW; exact (Cv6.out W).mono (fun e w9 h9 => ⟨h9.1, h9.2, RL.Aft.lat hSW h9.2⟩))
 try go_frame
 refine RL.tw 2 (v := .agg (u64s y.l)) rfl (fun W hSW => qo_ 76 _ rfl b3 0 rfl (u64s y.l) (qe_ (qc_ hSW Hb3.out) 0 0 y rfl rfl (by simp)) underlying76 rfl (by kernel_rfl)) ?_
 try go_frame
 refine' RL.td 3 (v := (.agg (u64s v8.l))) 119 #[.agg (u64s y.l)] ?hc2 ?_
 case hc2 => (intro W hSW; exact (Cv8.out W).mono (fun e w9 h9 => ⟨h9.1, h9.2, RL.Aft.lat hSW h9.2⟩))
 try go_frame
 refine' RL.tw 4 (v := .bool r) rfl ?hkq ?_
 case hkq => (intro W hSW; have x1 := HEQ.out W; go_simp; clear x1; cases r <;> rfl)
 try go_frame
 refine RL.tu 5 ?_; go_frame
 refine RL.done (by kernel_rfl) (fun Z9 hlZ9 hsZ9 => ?_)
 have HB := ϕ (Below.trans HB.out (Below.mono (show RL.Aft X2 Z9 from hsZ9) (Below.size HB.out)))
 go_wp2_with fail
 go_ret
 exact ⟨rfl, HB.out⟩
theorem m0_e : fpow (fe 2) ((2 ^ 255 - 20) / 2 ^ 2) = iE := Fin.ext (by rw [fpow_pm _ _ (by decide +kernel)]; decide +kernel)
theorem iE_ev : ev iE = iE := ev_even (by decide +kernel)
theorem exp_a : (2 ^ 255 - 24) / 2 ^ 3 + 1 = (Ed.P + 3) / 2 ^ 3 := by decide +kernel
theorem exp_b : 8 * ((2 ^ 255 - 24) / 2 ^ 3) + 4 = Ed.P - 1 := by decide +kernel
theorem fpow_ml (a b : F) : ∀ n, fpow (a * b) n = fpow a n * fpow b n
 | 0 => by show (1 : F) = 1 * 1; grobner
 | n + 1 => by
  show fpow (a * b) n * (a * b) = fpow a n * a * (fpow b n * b)
  rw [fpow_ml a b n]; grobner
theorem fpow_8 (b : F) : ∀ n, fpow (b * b * (b * b) * (b * b * (b * b))) n = fpow b (8 * n)
 | 0 => rfl
 | n + 1 => by
  show fpow _ n * (b * b * (b * b) * (b * b * (b * b))) = fpow b (8 * n) * b * b * b * b * b * b * b * b
  rw [fpow_8 b n]; grobner
theorem root_ring (z b p q : F) (h : q * b * b * b * b = 1) : z * b * (b * b * b) * (p * q) = p * z := by
 have : z * b * (b * b * b) * (p * q) = p * z * (q * b * b * b * b) := by grobner
 rw [this, h]; grobner
theorem root_v7 (z b : F) : z * b * (b * b * b * (b * b * b) * b) = z * (b * b * (b * b) * (b * b * (b * b))) := by grobner
theorem root_r {a b : F} (hb : b ≠ 0) : a * (b * b * b) * fpow (a * (b * b * b * (b * b * b) * b)) ((2 ^ 255 - 24) / 2 ^ 3) = rt1 (a * Ed.inv b) := by
 obtain ⟨z, hz⟩ : ∃ z, a * Ed.inv b = z := exr
 have ha : a = z * b := by
  have h1 := qv_ hb
  have : z * b = a * (b * Ed.inv b) := by rw [← hz]; grobner
  rw [this, h1]; grobner
 rw [hz, ha, root_v7, fpow_ml, fpow_8]
 unfold rt1
 rw [← exp_a]
 have h2 : fpow b (8 * ((2 ^ 255 - 24) / 2 ^ 3)) * b * b * b * b = 1 := by
  have h3 := fermat_f hb
  rw [← exp_b, fpow_add] at h3
  rw [← h3]
  show _ = fpow b _ * (1 * b * b * b * b)
  grobner
 generalize (2 ^ 255 - 24) / 2 ^ 3 = m at *
 exact root_ring z b _ _ h2
theorem root_y {a b r : F} (hb : b ≠ 0) : r * r * b = a ↔ r * r = a * Ed.inv b := by
 have h1 := qv_ hb
 constructor
 · intro h
   have : r * r = r * r * (b * Ed.inv b) := by rw [h1]; grobner
   rw [this, ← h]; grobner
 · intro h
   rw [h]
   have : a * Ed.inv b * b = a * (b * Ed.inv b) := by grobner
   rw [this, h1]; grobner
theorem root_n {a b r : F} (hb : b ≠ 0) : r * r * b = 0 - a ↔ r * iE * (r * iE) = a * Ed.inv b := by
 rw [root_y hb, i_sq]
 constructor
 · intro h; rw [h]; grobner
 · intro h; have : (0 - a) * Ed.inv b = 0 - a * Ed.inv b := by grobner
   rw [this, ← h]; grobner
theorem m1root_e : ∃ r, El r iE ∧ ∀ W : World, Calls prog 142 #[] W fun e w' => e = .returned (.agg (u64s r.l)) ∧ Below W.heap.size W w' := by
 obtain ⟨v2, ev2, cv2⟩ := small_e 2 (by decide) (Eq.refl (fe 2))
 have Ev2 := ϕ ev2
 have Cv2 := ϕ cv2
 clear ev2 cv2
 obtain ⟨v3, ev3, cv3⟩ := pwa_e Ev2.out
 have Ev3 := ϕ ev3
 have Cv3 := ϕ cv3
 clear ev3 cv3
 obtain ⟨v5, ev5, cv5⟩ := odd_e Ev3.out
 have Ev5 := ϕ ev5
 have Cv5 := ϕ cv5
 clear ev5 cv5
 obtain ⟨v7, ev7, cv7⟩ := neg_e Ev3.out
 have Ev7 := ϕ ev7
 have Cv7 := ϕ cv7
 clear ev7 cv7
 obtain ⟨v9, ev9, cv9⟩ := choose2_e v5 Ev7.out Ev3.out
 have Ev9 := ϕ ev9
 have Cv9 := ϕ cv9
 clear ev9 cv9
 have HM := ϕ m0_e
 refine ⟨v9, ?_, fun w => ?_⟩
 · have h := Ev9.out
   have h5 := Ev5.out
   rw [HM.out] at h h5
   rw [← h5] at h
   exact (show (if (iE.val % 2 == 1) = true then 0 - iE else iE) = iE from iE_ev) ▸ h
 go_enter func142, ntmps142
 go_upto_region 1 with fail
 have HB := ϕ (Below.refl w.heap.size w)
 obtain ⟨b0, hb0⟩ : ∃ n, w.heap.size = n := exr
 have Gb0 := ϕ (show w.heap.size ≤ b0 from hb0 ▸ HB.out.size)
 have Hb0 := ϕ (show Rg.Blk (w.alloc (.cells #[.int .u64 0, .int .u64 0, .int .u64 0, .int .u64 0, .int .u64 0] 76)) b0 76 (u64s (els [zE])) from Rg.Blk.newAt hb0.symm _ _)
 have HB := ϕ (HB.out.alloc HB.out.size (.cells #[.int .u64 0, .int .u64 0, .int .u64 0, .int .u64 0, .int .u64 0] 76))
 rw [hb0]
 clear hb0
 generalize (w.alloc (.cells #[.int .u64 0, .int .u64 0, .int .u64 0, .int .u64 0, .int .u64 0] 76)) = Y1 at *
 have tk2_0 := trivial
 go_upto_region 2 with (first
  | (clear tk2_0; go_at_call 67; refine (Cv2.out Y1).mono ?_; rintro e W3 ⟨rfl, hb9⟩; have Hb0 := bl Hb0 hb9; have HB := tm HB hb9; clear hb9; have tk2_1 := trivial)
  | (clear tk2_1; go_at_call 114; refine (Cv3.out W3).mono ?_; rintro e W4 ⟨rfl, hb9⟩; have Hb0 := bl Hb0 hb9; have HB := tm HB hb9; clear hb9; have tk2_2 := trivial)
  | (clear tk2_2; refine Rg.qf_ rfl 76 _ _ rfl (u64s (els [v3])) _ 76 rfl (by first | rfl | (rw [qj_])) (by kernel_rfl) (by first | rfl | kernel_rfl) (qp_ _) ?_; intro X5 hX hbX; obtain ⟨b1, hb1⟩ : ∃ n, W4.heap.size = n := exr; have Nb0_b1 := ϕ (show ¬ b0 = b1 from by have h1 := Hb0.out.lt; omega); have Nb1_b0 := ϕ (fun e : b1 = b0 => Nb0_b1.out e.symm); have Hb0 := bl Hb0 hbX; have Hb1 := ϕ (show Rg.Blk X5 b1 76 (u64s (els [v3])) from hb1 ▸ hX); have HB := tm HB hbX; rw [hb1]; clear hb1 hX hbX; have tk2_3 := trivial))
 clear tk2_3
 refine RL.start (fun W => Sp.Upd X5 W [b0]) (by kernel_rfl) (Sp.Upd.trans (Sp.Upd.refl _ _) (Sp.Upd.of_below (Below.drew (Below.refl _ _))) (by simp)) ?_
 refine RL.tw 0 (v := .agg (u64s v3.l)) rfl (fun W hSW => qo_ 76 _ rfl b1 0 rfl (u64s v3.l) (qe_ (qk_ hSW Hb1.out (by simp; exact Nb1_b0.out)) 0 0 v3 rfl rfl (by simp)) underlying76 rfl (by kernel_rfl)) ?_
 try go_frame
 refine' RL.td 1 (v := (.bool v5)) 79 #[.agg (u64s v3.l)] ?hc1 ?_
 case hc1 => (intro W hSW; exact (Cv5.out W).mono (fun e w9 h9 => ⟨h9.1, h9.2, Sp.Upd.trans hSW (Sp.Upd.of_below h9.2) (by simp)⟩))
 try go_frame
 refine RL.tw 2 (v := .agg (u64s v3.l)) rfl (fun W hSW => qo_ 76 _ rfl b1 0 rfl (u64s v3.l) (qe_ (qk_ hSW Hb1.out (by simp; exact Nb1_b0.out)) 0 0 v3 rfl rfl (by simp)) underlying76 rfl (by kernel_rfl)) ?_
 try go_frame
 refine' RL.td 3 (v := (.agg (u64s v7.l))) 68 #[.agg (u64s v3.l)] ?hc2 ?_
 case hc2 => (intro W hSW; exact (Cv7.out W).mono (fun e w9 h9 => ⟨h9.1, h9.2, Sp.Upd.trans hSW (Sp.Upd.of_below h9.2) (by simp)⟩))
 try go_frame
 refine RL.tw 4 (v := .agg (u64s v3.l)) rfl (fun W hSW => qo_ 76 _ rfl b1 0 rfl (u64s v3.l) (qe_ (qk_ hSW Hb1.out (by simp; exact Nb1_b0.out)) 0 0 v3 rfl rfl (by simp)) underlying76 rfl (by kernel_rfl)) ?_
 try go_frame
 refine' RL.td 5 (v := (.agg (u64s v9.l))) 143 #[.bool v5, .agg (u64s v7.l), .agg (u64s v3.l)] ?hc3 ?_
 case hc3 => (intro W hSW; exact (Cv9.out W).mono (fun e w9 h9 => ⟨h9.1, h9.2, Sp.Upd.trans hSW (Sp.Upd.of_below h9.2) (by simp)⟩))
 try go_frame
 refine RL.sk 6 (fun va hlva hsva K hK => ?_)
 have hO := (Hb0.out.below (Below.drew (Below.refl _ _)) Hb0.out.lt).below hlva (by have := Hb0.out.lt; simpa using this)
 refine qg_ 76 _ _ rfl b0 (u64s (els [v9])) _ 76 rfl (by first | rfl | (rw [qj_])) hO (by kernel_rfl) (by first | rfl | kernel_rfl) (qp_ _) ?_
 intro Y hY hgY
 have hsY : Sp.Upd X5 Y [b0] := Sp.Upd.trans hsva (Sp.Upd.of_grown1 hgY) (fun k hk => .inl (by simp at hk; simp [hk]))
 refine hK.out _ _ hsY ?_
 clear hK
 try go_frame
 refine RL.done (by kernel_rfl) (fun Z6 hlZ6 hsZ6 => ?_)
 have Hb0 := ϕ (show Rg.Blk Z6 b0 76 (u64s (els [v9])) from Rg.Blk.below hY hlZ6 hY.lt)
 have HB := ϕ (qm_ HB.out hsZ6 (fun k hk => by simp at hk; rw [hk]; exact Gb0.out) HB.out.size)
 clear hsY hY hgY hlva hsva hlZ6 hsZ6 hO
 go_wp2_with fail
 refine bodyPost_ret (v := .agg (u64s (els [v9])))
  (results_cell_row results142 _ _ b0 76 _ (0, 0) _ rfl Hb0.out underlying76 rfl (by kernel_rfl)) rfl ?_
 exact ⟨rfl, HB.out⟩
theorem root_e {u v : E} {a b : F} (hu : El u a) (hv : El v b) (hb : b ≠ 0) : ∃ r ok, ((ok = true ∧ ∃ s, rt (a * Ed.inv b) = some s ∧ El r s) ∨ (ok = false ∧ rt (a * Ed.inv b) = none ∧ El r 0)) ∧ ∀ W : World, Calls prog 116 #[.agg (u64s u.l), .agg (u64s v.l)] W fun e w' => e = .returned (.tuple #[.agg (u64s r.l), .bool ok]) ∧ Below W.heap.size W w' := by
 have Eu := ϕ hu
 have Ev := ϕ hv
 have EzE := ϕ zE_e
 have HRR := ϕ (root_r (a := a) hb)
 have HRY := ϕ (fun r => root_y (a := a) (r := r) hb)
 have HRN := ϕ (fun r => root_n (a := a) (r := r) hb)
 clear hu hv hb
 obtain ⟨v11, ev11, cv11⟩ := sq_e Ev.out
 have Ev11 := ϕ ev11
 have Cv11 := ϕ cv11
 clear ev11 cv11
 obtain ⟨v13, ev13, cv13⟩ := mul_e Ev11.out Ev.out
 have Ev13 := ϕ ev13
 have Cv13 := ϕ cv13
 clear ev13 cv13
 obtain ⟨v15, ev15, cv15⟩ := sq_e Ev13.out
 have Ev15 := ϕ ev15
 have Cv15 := ϕ cv15
 clear ev15 cv15
 obtain ⟨v17, ev17, cv17⟩ := mul_e Ev15.out Ev.out
 have Ev17 := ϕ ev17
 have Cv17 := ϕ cv17
 clear ev17 cv17
 obtain ⟨v20, ev20, cv20⟩ := mul_e Eu.out Ev13.out
 have Ev20 := ϕ ev20
 have Cv20 := ϕ cv20
 clear ev20 cv20
 obtain ⟨v23, ev23, cv23⟩ := mul_e Eu.out Ev17.out
 have Ev23 := ϕ ev23
 have Cv23 := ϕ cv23
 clear ev23 cv23
 obtain ⟨v24, ev24, cv24⟩ := pwb_e Ev23.out
 have Ev24 := ϕ ev24
 have Cv24 := ϕ cv24
 clear ev24 cv24
 obtain ⟨v25, ev25, cv25⟩ := mul_e Ev20.out Ev24.out
 have Ev25 := ϕ ev25
 have Cv25 := ϕ cv25
 clear ev25 cv25
 obtain ⟨v27, ev27, cv27⟩ := sq_e Ev25.out
 have Ev27 := ϕ ev27
 have Cv27 := ϕ cv27
 clear ev27 cv27
 obtain ⟨v29, ev29, cv29⟩ := mul_e Ev27.out Ev.out
 have Ev29 := ϕ ev29
 have Cv29 := ϕ cv29
 clear ev29 cv29
 obtain ⟨v34, ev34, cv34⟩ := same_e Ev29.out Eu.out
 have Ev34 := ϕ ev34
 have Cv34 := ϕ cv34
 clear ev34 cv34
 obtain ⟨v44, ev44, cv44⟩ := odd_e Ev25.out
 have Ev44 := ϕ ev44
 have Cv44 := ϕ cv44
 clear ev44 cv44
 obtain ⟨v46, ev46, cv46⟩ := neg_e Ev25.out
 have Ev46 := ϕ ev46
 have Cv46 := ϕ cv46
 clear ev46 cv46
 obtain ⟨v48, ev48, cv48⟩ := choose2_e v44 Ev46.out Ev25.out
 have Ev48 := ϕ ev48
 have Cv48 := ϕ cv48
 clear ev48 cv48
 obtain ⟨v38, ev38, cv38⟩ := neg_e Eu.out
 have Ev38 := ϕ ev38
 have Cv38 := ϕ cv38
 clear ev38 cv38
 obtain ⟨v39, ev39, cv39⟩ := same_e Ev29.out Ev38.out
 have Ev39 := ϕ ev39
 have Cv39 := ϕ cv39
 clear ev39 cv39
 obtain ⟨v41, ev41, cv41⟩ := m1root_e 
 have Ev41 := ϕ ev41
 have Cv41 := ϕ cv41
 clear ev41 cv41
 obtain ⟨v42, ev42, cv42⟩ := mul_e Ev25.out Ev41.out
 have Ev42 := ϕ ev42
 have Cv42 := ϕ cv42
 clear ev42 cv42
 obtain ⟨v44y, ev44y, cv44y⟩ := odd_e Ev42.out
 have Ev44y := ϕ ev44y
 have Cv44y := ϕ cv44y
 clear ev44y cv44y
 obtain ⟨v46y, ev46y, cv46y⟩ := neg_e Ev42.out
 have Ev46y := ϕ ev46y
 have Cv46y := ϕ cv46y
 clear ev46y cv46y
 obtain ⟨v48y, ev48y, cv48y⟩ := choose2_e v44y Ev46y.out Ev42.out
 have Ev48y := ϕ ev48y
 have Cv48y := ϕ cv48y
 clear ev48y cv48y
 have E34 := Ev34
 obtain ⟨r0, hr0⟩ : ∃ r, a * (b * b * b) * fpow (a * (b * b * b * (b * b * b) * b)) ((2 ^ 255 - 24) / 2 ^ 3) = r := exr
 have HR0 := ϕ (show r0 = rt1 (a * Ed.inv b) from hr0 ▸ HRR.out)
 have E34 := ϕ (show decide (r0 * r0 * b = a) = v34 from hr0 ▸ Ev34.out)
 have E39 := ϕ (show decide (r0 * r0 * b = 0 - a) = v39 from hr0 ▸ Ev39.out)
 have F48 := ϕ (show El v48 (ev r0) from by
  have h := Ev48.out
  rw [← Ev44.out, hr0] at h
  exact h)
 have F48y := ϕ (show El v48y (ev (r0 * iE)) from by
  have h := Ev48y.out
  rw [← Ev44y.out, hr0] at h
  exact h)
 refine ⟨bif v34 then v48 else bif v39 then v48y else zE, v34 || v39, ?_, fun w => ?_⟩
 · cases v34 with
   | true =>
    have hq := of_decide_eq_true E34.out
    rw [HRY.out] at hq
    exact Or.inl ⟨rfl, ev r0, rt_a HR0.out hq, F48.out⟩
   | false =>
    have hq := of_decide_eq_false E34.out
    rw [HRY.out] at hq
    cases v39 with
    | true =>
     have hq2 := of_decide_eq_true E39.out
     rw [HRN.out] at hq2
     exact Or.inl ⟨rfl, ev (r0 * iE), rt_b HR0.out hq hq2, F48y.out⟩
    | false =>
     have hq2 := of_decide_eq_false E39.out
     rw [HRN.out] at hq2
     exact Or.inr ⟨rfl, rt_c HR0.out hq hq2, EzE.out⟩
 clear E34 E39 F48 F48y Ev34 Ev39 HR0 hr0
 go_enter func116, ntmps116
 have tb0 := trivial
 go_upto_region 1 with (first
  | (clear tb0; (with_reducible refine qd_ ?_); refine Rg.qh_ rfl 76 _ rfl (u64s (els [u])) (by first | rfl | (rw [qj_])) ?_; intro X1 hX hbX hnX; have J0 := ϕ hX; have K0 := ϕ hbX; have M0 := ϕ hnX; clear hX hbX hnX; have tb1 := trivial)
  | (clear tb1; (with_reducible refine qd_ ?_); refine Rg.qh_ rfl 76 _ rfl (u64s (els [v])) (by first | rfl | (rw [qj_])) ?_; intro X2 hX hbX hnX; have J1 := ϕ hX; have K1 := ϕ hbX; have M1 := ϕ hnX; clear hX hbX hnX; have tb2 := trivial))
 clear tb2
 have HB := ϕ (Below.refl w.heap.size w)
 obtain ⟨b2, hb2⟩ : ∃ n, w.heap.size = n := exr
 have Hb2 := ϕ (show Rg.Blk X1 b2 76 (u64s (els [u])) from hb2 ▸ J0.out)
 have HB := ϕ (HB.out.trans (K0.out.mono HB.out.size))
 rw [hb2]
 clear hb2 J0 K0 M0
 obtain ⟨b3, hb3⟩ : ∃ n, X1.heap.size = n := exr
 have Hb2 := bl Hb2 K1.out
 have Hb3 := ϕ (show Rg.Blk X2 b3 76 (u64s (els [v])) from hb3 ▸ J1.out)
 have HB := ϕ (HB.out.trans (K1.out.mono HB.out.size))
 rw [hb3]
 clear hb3 J1 K1 M1
 obtain ⟨b4, hb4⟩ : ∃ n, X2.heap.size = n := exr
 have Gb4 := ϕ (show w.heap.size ≤ b4 from hb4 ▸ HB.out.size)
 have Hb2 := ϕ (Hb2.out.alloc (.cells #[.int .u64 0, .int .u64 0, .int .u64 0, .int .u64 0, .int .u64 0] 76))
 have Hb3 := ϕ (Hb3.out.alloc (.cells #[.int .u64 0, .int .u64 0, .int .u64 0, .int .u64 0, .int .u64 0] 76))
 have Hb4 := ϕ (show Rg.Blk (X2.alloc (.cells #[.int .u64 0, .int .u64 0, .int .u64 0, .int .u64 0, .int .u64 0] 76)) b4 76 (u64s (els [zE])) from Rg.Blk.newAt hb4.symm _ _)
 have HB := ϕ (HB.out.alloc HB.out.size (.cells #[.int .u64 0, .int .u64 0, .int .u64 0, .int .u64 0, .int .u64 0] 76))
 rw [hb4]
 clear hb4
 generalize (X2.alloc (.cells #[.int .u64 0, .int .u64 0, .int .u64 0, .int .u64 0, .int .u64 0] 76)) = Y3 at *
 refine RL.start (RL.Aft Y3) (by kernel_rfl) (RL.Aft.drew (RL.Aft.refl Y3)) ?_
 refine RL.tw 0 (v := .agg (u64s v.l)) rfl (fun W hSW => qo_ 76 _ rfl b3 0 rfl (u64s v.l) (qe_ (qc_ hSW Hb3.out) 0 0 v rfl rfl (by simp)) underlying76 rfl (by kernel_rfl)) ?_
 try go_frame
 refine' RL.td 1 (v := (.agg (u64s v11.l))) 115 #[.agg (u64s v.l)] ?hc4 ?_
 case hc4 => (intro W hSW; exact (Cv11.out W).mono (fun e w9 h9 => ⟨h9.1, h9.2, RL.Aft.lat hSW h9.2⟩))
 try go_frame
 refine RL.tw 2 (v := .agg (u64s v.l)) rfl (fun W hSW => qo_ 76 _ rfl b3 0 rfl (u64s v.l) (qe_ (qc_ hSW Hb3.out) 0 0 v rfl rfl (by simp)) underlying76 rfl (by kernel_rfl)) ?_
 try go_frame
 refine' RL.td 3 (v := (.agg (u64s v13.l))) 69 #[.agg (u64s v11.l), .agg (u64s v.l)] ?hc5 ?_
 case hc5 => (intro W hSW; exact (Cv13.out W).mono (fun e w9 h9 => ⟨h9.1, h9.2, RL.Aft.lat hSW h9.2⟩))
 try go_frame
 refine RL.sk 4 (fun wa hlwa hswa K hK => ?_)
 go_simp
 obtain ⟨b6, hb6⟩ : ∃ n, wa.heap.size = n := exr
 have hZb6 := Rg.Blk.newAt hb6.symm #[.int .u64 0, .int .u64 0, .int .u64 0, .int .u64 0, .int .u64 0] 76
 have Fb6 := ϕ (show Y3.heap.size ≤ b6 from hb6 ▸ Below.size hswa)
 refine hK.out _ _ (RL.Aft.alloc hswa _) ?_
 try rw [hb6]
 clear hK
 try go_frame
 refine RL.sk 5 (fun va0 hlva0 hsva0 K hK => ?_)
 have hZb6 := hZb6.below hlva0 hZb6.lt
 refine qg_ 76 _ _ rfl b6 (u64s (els [v13])) _ 76 rfl (by first | rfl | (rw [qj_])) hZb6 (by kernel_rfl) rfl (qp_ _) ?_
 intro Y0 hY hgY
 replace hZb6 := hY
 refine hK.out _ _ (Below.grown hsva0 hgY (Below.size hsva0) (fun k hk => by cases hk; exact Fb6.out)) ?_
 clear hK hgY
 try go_frame
 refine RL.done (by kernel_rfl) (fun Z4 hlZ4 hsZ4 => ?_)
 have HA := ϕ (show RL.Aft Y3 Z4 from hsZ4)
 have Hb6 := ϕ (show Rg.Blk Z4 b6 76 (u64s (els [v13])) from hZb6.below hlZ4 hZb6.lt)
 have Hb2 := ϕ (qc_ HA.out Hb2.out)
 have Hb3 := ϕ (qc_ HA.out Hb3.out)
 have Hb4 := ϕ (qc_ HA.out Hb4.out)
 have HB := ϕ (Below.trans HB.out (Below.mono HA.out (Below.size HB.out)))
 clear HA hsZ4 hlZ4 hZb6 Fb6
 go_upto_region 2 with fail
 refine RL.start (RL.Aft Z4) (by kernel_rfl) (RL.Aft.drew (RL.Aft.refl Z4)) ?_
 refine RL.tw 0 (v := .agg (u64s v13.l)) rfl (fun W hSW => qo_ 76 _ rfl b6 0 rfl (u64s v13.l) (qe_ (qc_ hSW Hb6.out) 0 0 v13 rfl rfl (by simp)) underlying76 rfl (by kernel_rfl)) ?_
 try go_frame
 refine' RL.td 1 (v := (.agg (u64s v15.l))) 115 #[.agg (u64s v13.l)] ?hc6 ?_
 case hc6 => (intro W hSW; exact (Cv15.out W).mono (fun e w9 h9 => ⟨h9.1, h9.2, RL.Aft.lat hSW h9.2⟩))
 try go_frame
 refine RL.tw 2 (v := .agg (u64s v.l)) rfl (fun W hSW => qo_ 76 _ rfl b3 0 rfl (u64s v.l) (qe_ (qc_ hSW Hb3.out) 0 0 v rfl rfl (by simp)) underlying76 rfl (by kernel_rfl)) ?_
 try go_frame
 refine' RL.td 3 (v := (.agg (u64s v17.l))) 69 #[.agg (u64s v15.l), .agg (u64s v.l)] ?hc7 ?_
 case hc7 => (intro W hSW; exact (Cv17.out W).mono (fun e w9 h9 => ⟨h9.1, h9.2, RL.Aft.lat hSW h9.2⟩))
 try go_frame
 refine RL.sk 4 (fun wa hlwa hswa K hK => ?_)
 go_simp
 obtain ⟨b7, hb7⟩ : ∃ n, wa.heap.size = n := exr
 have hZb7 := Rg.Blk.newAt hb7.symm #[.int .u64 0, .int .u64 0, .int .u64 0, .int .u64 0, .int .u64 0] 76
 have Fb7 := ϕ (show Z4.heap.size ≤ b7 from hb7 ▸ Below.size hswa)
 refine hK.out _ _ (RL.Aft.alloc hswa _) ?_
 try rw [hb7]
 clear hK
 try go_frame
 refine RL.sk 5 (fun va0 hlva0 hsva0 K hK => ?_)
 have hZb7 := hZb7.below hlva0 hZb7.lt
 refine qg_ 76 _ _ rfl b7 (u64s (els [v17])) _ 76 rfl (by first | rfl | (rw [qj_])) hZb7 (by kernel_rfl) rfl (qp_ _) ?_
 intro Y0 hY hgY
 replace hZb7 := hY
 refine hK.out _ _ (Below.grown hsva0 hgY (Below.size hsva0) (fun k hk => by cases hk; exact Fb7.out)) ?_
 clear hK hgY
 try go_frame
 refine RL.done (by kernel_rfl) (fun Z5 hlZ5 hsZ5 => ?_)
 have HA := ϕ (show RL.Aft Z4 Z5 from hsZ5)
 have Hb7 := ϕ (show Rg.Blk Z5 b7 76 (u64s (els [v17])) from hZb7.below hlZ5 hZb7.lt)
 have Hb2 := ϕ (qc_ HA.out Hb2.out)
 have Hb3 := ϕ (qc_ HA.out Hb3.out)
 have Hb4 := ϕ (qc_ HA.out Hb4.out)
 have Hb6 := ϕ (qc_ HA.out Hb6.out)
 have HB := ϕ (Below.trans HB.out (Below.mono HA.out (Below.size HB.out)))
 clear HA hsZ5 hlZ5 hZb7 Fb7
 go_upto_region 3 with fail
 refine RL.start (RL.Aft Z5) (by kernel_rfl) (RL.Aft.drew (RL.Aft.refl Z5)) ?_
 refine RL.tw 0 (v := .agg (u64s u.l)) rfl (fun W hSW => qo_ 76 _ rfl b2 0 rfl (u64s u.l) (qe_ (qc_ hSW Hb2.out) 0 0 u rfl rfl (by simp)) underlying76 rfl (by kernel_rfl)) ?_
 try go_frame
 refine RL.tw 1 (v := .agg (u64s v13.l)) rfl (fun W hSW => qo_ 76 _ rfl b6 0 rfl (u64s v13.l) (qe_ (qc_ hSW Hb6.out) 0 0 v13 rfl rfl (by simp)) underlying76 rfl (by kernel_rfl)) ?_
 try go_frame
 refine' RL.td 2 (v := (.agg (u64s v20.l))) 69 #[.agg (u64s u.l), .agg (u64s v13.l)] ?hc8 ?_
 case hc8 => (intro W hSW; exact (Cv20.out W).mono (fun e w9 h9 => ⟨h9.1, h9.2, RL.Aft.lat hSW h9.2⟩))
 try go_frame
 refine RL.tw 3 (v := .agg (u64s u.l)) rfl (fun W hSW => qo_ 76 _ rfl b2 0 rfl (u64s u.l) (qe_ (qc_ hSW Hb2.out) 0 0 u rfl rfl (by simp)) underlying76 rfl (by kernel_rfl)) ?_
 try go_frame
 refine RL.tw 4 (v := .agg (u64s v17.l)) rfl (fun W hSW => qo_ 76 _ rfl b7 0 rfl (u64s v17.l) (qe_ (qc_ hSW Hb7.out) 0 0 v17 rfl rfl (by simp)) underlying76 rfl (by kernel_rfl)) ?_
 try go_frame
 refine' RL.td 5 (v := (.agg (u64s v23.l))) 69 #[.agg (u64s u.l), .agg (u64s v17.l)] ?hc9 ?_
 case hc9 => (intro W hSW; exact (Cv23.out W).mono (fun e w9 h9 => ⟨h9.1, h9.2, RL.Aft.lat hSW h9.2⟩))
 try go_frame
 refine' RL.td 6 (v := (.agg (u64s v24.l))) 114 #[.agg (u64s v23.l), .int .u64 24, .int .i64 3] ?hc10 ?_
 case hc10 => (intro W hSW; exact (Cv24.out W).mono (fun e w9 h9 => ⟨h9.1, h9.2, RL.Aft.lat hSW h9.2⟩))
 try go_frame
 refine' RL.td 7 (v := (.agg (u64s v25.l))) 69 #[.agg (u64s v20.l), .agg (u64s v24.l)] ?hc11 ?_
 case hc11 => (intro W hSW; exact (Cv25.out W).mono (fun e w9 h9 => ⟨h9.1, h9.2, RL.Aft.lat hSW h9.2⟩))
 try go_frame
 refine RL.sk 8 (fun wa hlwa hswa K hK => ?_)
 go_simp
 obtain ⟨b8, hb8⟩ : ∃ n, wa.heap.size = n := exr
 have hZb8 := Rg.Blk.newAt hb8.symm #[.int .u64 0, .int .u64 0, .int .u64 0, .int .u64 0, .int .u64 0] 76
 have Fb8 := ϕ (show Z5.heap.size ≤ b8 from hb8 ▸ Below.size hswa)
 refine hK.out _ _ (RL.Aft.alloc hswa _) ?_
 try rw [hb8]
 clear hK
 try go_frame
 refine RL.sk 9 (fun va0 hlva0 hsva0 K hK => ?_)
 have hZb8 := hZb8.below hlva0 hZb8.lt
 refine qg_ 76 _ _ rfl b8 (u64s (els [v25])) _ 76 rfl (by first | rfl | (rw [qj_])) hZb8 (by kernel_rfl) rfl (qp_ _) ?_
 intro Y0 hY hgY
 replace hZb8 := hY
 refine hK.out _ _ (Below.grown hsva0 hgY (Below.size hsva0) (fun k hk => by cases hk; exact Fb8.out)) ?_
 clear hK hgY
 try go_frame
 refine RL.done (by kernel_rfl) (fun Z6 hlZ6 hsZ6 => ?_)
 have HA := ϕ (show RL.Aft Z5 Z6 from hsZ6)
 have Hb8 := ϕ (show Rg.Blk Z6 b8 76 (u64s (els [v25])) from hZb8.below hlZ6 hZb8.lt)
 have Gb8 := ϕ (show w.heap.size ≤ b8 from Nat.le_trans HB.out.size Fb8.out)
 have Nb4_b8 := ϕ (show ¬ b4 = b8 from by have h1 := Hb4.out.lt; have h2 := Fb8.out; omega)
 have Nb8_b4 := ϕ (fun e : b8 = b4 => Nb4_b8.out e.symm)
 have Hb2 := ϕ (qc_ HA.out Hb2.out)
 have Hb3 := ϕ (qc_ HA.out Hb3.out)
 have Hb4 := ϕ (qc_ HA.out Hb4.out)
 have Hb6 := ϕ (qc_ HA.out Hb6.out)
 have Hb7 := ϕ (qc_ HA.out Hb7.out)
 have HB := ϕ (Below.trans HB.out (Below.mono HA.out (Below.size HB.out)))
 clear HA hsZ6 hlZ6 hZb8 Fb8
 go_upto_region 4 with fail
 refine RL.start (RL.Aft Z6) (by kernel_rfl) (RL.Aft.drew (RL.Aft.refl Z6)) ?_
 refine RL.tw 0 (v := .agg (u64s v25.l)) rfl (fun W hSW => qo_ 76 _ rfl b8 0 rfl (u64s v25.l) (qe_ (qc_ hSW Hb8.out) 0 0 v25 rfl rfl (by simp)) underlying76 rfl (by kernel_rfl)) ?_
 try go_frame
 refine' RL.td 1 (v := (.agg (u64s v27.l))) 115 #[.agg (u64s v25.l)] ?hc12 ?_
 case hc12 => (intro W hSW; exact (Cv27.out W).mono (fun e w9 h9 => ⟨h9.1, h9.2, RL.Aft.lat hSW h9.2⟩))
 try go_frame
 refine RL.tw 2 (v := .agg (u64s v.l)) rfl (fun W hSW => qo_ 76 _ rfl b3 0 rfl (u64s v.l) (qe_ (qc_ hSW Hb3.out) 0 0 v rfl rfl (by simp)) underlying76 rfl (by kernel_rfl)) ?_
 try go_frame
 refine' RL.td 3 (v := (.agg (u64s v29.l))) 69 #[.agg (u64s v27.l), .agg (u64s v.l)] ?hc13 ?_
 case hc13 => (intro W hSW; exact (Cv29.out W).mono (fun e w9 h9 => ⟨h9.1, h9.2, RL.Aft.lat hSW h9.2⟩))
 try go_frame
 refine RL.sk 4 (fun wa hlwa hswa K hK => ?_)
 go_simp
 obtain ⟨b9, hb9⟩ : ∃ n, wa.heap.size = n := exr
 have hZb9 := Rg.Blk.newAt hb9.symm #[.int .u64 0, .int .u64 0, .int .u64 0, .int .u64 0, .int .u64 0] 76
 have Fb9 := ϕ (show Z6.heap.size ≤ b9 from hb9 ▸ Below.size hswa)
 refine hK.out _ _ (RL.Aft.alloc hswa _) ?_
 try rw [hb9]
 clear hK
 try go_frame
 refine RL.sk 5 (fun va0 hlva0 hsva0 K hK => ?_)
 have hZb9 := hZb9.below hlva0 hZb9.lt
 refine qg_ 76 _ _ rfl b9 (u64s (els [v29])) _ 76 rfl (by first | rfl | (rw [qj_])) hZb9 (by kernel_rfl) rfl (qp_ _) ?_
 intro Y0 hY hgY
 replace hZb9 := hY
 refine hK.out _ _ (Below.grown hsva0 hgY (Below.size hsva0) (fun k hk => by cases hk; exact Fb9.out)) ?_
 clear hK hgY
 try go_frame
 refine RL.done (by kernel_rfl) (fun Z7 hlZ7 hsZ7 => ?_)
 have HA := ϕ (show RL.Aft Z6 Z7 from hsZ7)
 have Hb9 := ϕ (show Rg.Blk Z7 b9 76 (u64s (els [v29])) from hZb9.below hlZ7 hZb9.lt)
 have Hb2 := ϕ (qc_ HA.out Hb2.out)
 have Hb3 := ϕ (qc_ HA.out Hb3.out)
 have Hb4 := ϕ (qc_ HA.out Hb4.out)
 have Hb6 := ϕ (qc_ HA.out Hb6.out)
 have Hb7 := ϕ (qc_ HA.out Hb7.out)
 have Hb8 := ϕ (qc_ HA.out Hb8.out)
 have HB := ϕ (Below.trans HB.out (Below.mono HA.out (Below.size HB.out)))
 clear HA hsZ7 hlZ7 hZb9 Fb9
 go_upto_region 6 with fail
 cases v34 with
 | true =>
  have tk8_0 := trivial
  go_upto_region 9 with (first
   | (clear tk8_0; (with_reducible refine qd_ ?_); refine lxA (u64s v29.l) (qe_ (Hb9.out) 0 0 v29 rfl rfl (by simp)) ?_; have tk8_1 := trivial)
   | (clear tk8_1; (with_reducible refine qd_ ?_); refine lxA (u64s u.l) (qe_ (Hb2.out) 0 0 u rfl rfl (by simp)) ?_; have tk8_2 := trivial)
   | (clear tk8_2; go_at_call 141; refine (Cv34.out Z7).mono ?_; rintro e W9 ⟨rfl, hb9⟩; have Hb2 := bl Hb2 hb9; have Hb3 := bl Hb3 hb9; have Hb4 := bl Hb4 hb9; have Hb6 := bl Hb6 hb9; have Hb7 := bl Hb7 hb9; have Hb8 := bl Hb8 hb9; have Hb9 := bl Hb9 hb9; have HB := tm HB hb9; clear hb9; have tk8_3 := trivial))
  clear tk8_3
  go_upto_region 9 with fail
  refine RL.start (fun W => Sp.Upd W9 W [b4]) (by kernel_rfl) (Sp.Upd.trans (Sp.Upd.refl _ _) (Sp.Upd.of_below (Below.drew (Below.refl _ _))) (by simp)) ?_
  refine RL.tw 0 (v := .agg (u64s v25.l)) rfl (fun W hSW => qo_ 76 _ rfl b8 0 rfl (u64s v25.l) (qe_ (qk_ hSW Hb8.out (by simp; exact Nb8_b4.out)) 0 0 v25 rfl rfl (by simp)) underlying76 rfl (by kernel_rfl)) ?_
  try go_frame
  refine' RL.td 1 (v := (.bool v44)) 79 #[.agg (u64s v25.l)] ?hc14 ?_
  case hc14 => (intro W hSW; exact (Cv44.out W).mono (fun e w9 h9 => ⟨h9.1, h9.2, Sp.Upd.trans hSW (Sp.Upd.of_below h9.2) (by simp)⟩))
  try go_frame
  refine RL.tw 2 (v := .agg (u64s v25.l)) rfl (fun W hSW => qo_ 76 _ rfl b8 0 rfl (u64s v25.l) (qe_ (qk_ hSW Hb8.out (by simp; exact Nb8_b4.out)) 0 0 v25 rfl rfl (by simp)) underlying76 rfl (by kernel_rfl)) ?_
  try go_frame
  refine' RL.td 3 (v := (.agg (u64s v46.l))) 68 #[.agg (u64s v25.l)] ?hc15 ?_
  case hc15 => (intro W hSW; exact (Cv46.out W).mono (fun e w9 h9 => ⟨h9.1, h9.2, Sp.Upd.trans hSW (Sp.Upd.of_below h9.2) (by simp)⟩))
  try go_frame
  refine RL.tw 4 (v := .agg (u64s v25.l)) rfl (fun W hSW => qo_ 76 _ rfl b8 0 rfl (u64s v25.l) (qe_ (qk_ hSW Hb8.out (by simp; exact Nb8_b4.out)) 0 0 v25 rfl rfl (by simp)) underlying76 rfl (by kernel_rfl)) ?_
  try go_frame
  refine' RL.td 5 (v := (.agg (u64s v48.l))) 143 #[.bool v44, .agg (u64s v46.l), .agg (u64s v25.l)] ?hc16 ?_
  case hc16 => (intro W hSW; exact (Cv48.out W).mono (fun e w9 h9 => ⟨h9.1, h9.2, Sp.Upd.trans hSW (Sp.Upd.of_below h9.2) (by simp)⟩))
  try go_frame
  refine RL.sk 6 (fun va hlva hsva K hK => ?_)
  have hO := (Hb4.out.below (Below.drew (Below.refl _ _)) Hb4.out.lt).below hlva (by have := Hb4.out.lt; simpa using this)
  refine qg_ 76 _ _ rfl b4 (u64s (els [v48])) _ 76 rfl (by first | rfl | (rw [qj_])) hO (by kernel_rfl) (by first | rfl | kernel_rfl) (qp_ _) ?_
  intro Y hY hgY
  have hsY : Sp.Upd W9 Y [b4] := Sp.Upd.trans hsva (Sp.Upd.of_grown1 hgY) (fun k hk => .inl (by simp at hk; simp [hk]))
  refine hK.out _ _ hsY ?_
  clear hK
  try go_frame
  refine RL.tu 7 ?_; go_frame
  refine RL.done (by kernel_rfl) (fun Z10 hlZ10 hsZ10 => ?_)
  have Hb4 := ϕ (show Rg.Blk Z10 b4 76 (u64s (els [v48])) from Rg.Blk.below hY hlZ10 hY.lt)
  have HB := ϕ (qm_ HB.out hsZ10 (fun k hk => by simp at hk; rw [hk]; exact Gb4.out) HB.out.size)
  clear hsY hY hgY hlva hsva hlZ10 hsZ10 hO
  go_wp2_with fail
  refine bodyPost_ret (v := .tuple #[.agg (u64s (els [v48])), .bool true])
   (ja_ results116 _ _ b4 76 _ (0, 0) _ _ rfl rfl Hb4.out underlying76 rfl (by kernel_rfl)) rfl ?_
  exact ⟨rfl, HB.out⟩
 | false =>
  have tk8_0 := trivial
  go_upto_region 7 with (first
   | (clear tk8_0; (with_reducible refine qd_ ?_); refine lxA (u64s v29.l) (qe_ (Hb9.out) 0 0 v29 rfl rfl (by simp)) ?_; have tk8_1 := trivial)
   | (clear tk8_1; (with_reducible refine qd_ ?_); refine lxA (u64s u.l) (qe_ (Hb2.out) 0 0 u rfl rfl (by simp)) ?_; have tk8_2 := trivial)
   | (clear tk8_2; go_at_call 141; refine (Cv34.out Z7).mono ?_; rintro e W9 ⟨rfl, hb9⟩; have Hb2 := bl Hb2 hb9; have Hb3 := bl Hb3 hb9; have Hb4 := bl Hb4 hb9; have Hb6 := bl Hb6 hb9; have Hb7 := bl Hb7 hb9; have Hb8 := bl Hb8 hb9; have Hb9 := bl Hb9 hb9; have HB := tm HB hb9; clear hb9; have tk8_3 := trivial))
  clear tk8_3
  refine RL.start (RL.Aft W9) (by kernel_rfl) (RL.Aft.drew (RL.Aft.refl W9)) ?_
  refine RL.tw 0 (v := .agg (u64s v29.l)) rfl (fun W hSW => qo_ 76 _ rfl b9 0 rfl (u64s v29.l) (qe_ (qc_ hSW Hb9.out) 0 0 v29 rfl rfl (by simp)) underlying76 rfl (by kernel_rfl)) ?_
  try go_frame
  refine RL.tw 1 (v := .agg (u64s u.l)) rfl (fun W hSW => qo_ 76 _ rfl b2 0 rfl (u64s u.l) (qe_ (qc_ hSW Hb2.out) 0 0 u rfl rfl (by simp)) underlying76 rfl (by kernel_rfl)) ?_
  try go_frame
  refine' RL.td 2 (v := (.agg (u64s v38.l))) 68 #[.agg (u64s u.l)] ?hc28 ?_
  case hc28 => (intro W hSW; exact (Cv38.out W).mono (fun e w9 h9 => ⟨h9.1, h9.2, RL.Aft.lat hSW h9.2⟩))
  try go_frame
  refine' RL.td 3 (v := (.bool v39)) 141 #[.agg (u64s v29.l), .agg (u64s v38.l)] ?hc29 ?_
  case hc29 => (intro W hSW; exact (Cv39.out W).mono (fun e w9 h9 => ⟨h9.1, h9.2, RL.Aft.lat hSW h9.2⟩))
  try go_frame
  refine RL.tu 4 ?_; go_frame
  refine RL.done (by kernel_rfl) (fun Z10 hlZ10 hsZ10 => ?_)
  have HA := ϕ (show RL.Aft W9 Z10 from hsZ10)
  have Hb4 := ϕ (qc_ HA.out Hb4.out)
  have Hb8 := ϕ (qc_ HA.out Hb8.out)
  have HB := ϕ (Below.trans HB.out (Below.mono HA.out (Below.size HB.out)))
  clear HA hsZ10 hlZ10
  cases v39 with
  | true =>
   go_upto_region 8 with fail
   refine RL.start (fun W => Sp.Upd Z10 W [b8]) (by kernel_rfl) (Sp.Upd.trans (Sp.Upd.refl _ _) (Sp.Upd.of_below (Below.drew (Below.refl _ _))) (by simp)) ?_
   refine' RL.td 1 (v := (.agg (u64s v41.l))) 142 #[] ?hc31 ?_
   case hc31 => (intro W hSW; exact (Cv41.out W).mono (fun e w9 h9 => ⟨h9.1, h9.2, Sp.Upd.trans hSW (Sp.Upd.of_below h9.2) (by simp)⟩))
   try go_frame
   refine RL.sk 0 (fun q11 hlq11 hsq11 K hK => ?_)
   have hO := (Hb8.out.below (Below.drew (Below.refl _ _)) Hb8.out.lt).below hlq11 (by have := Hb8.out.lt; simpa using this)
   refine wp_val (qo_ 76 _ rfl b8 0 rfl (u64s v25.l) (qe_ (hO) 0 0 v25 rfl rfl (by simp)) underlying76 rfl (by kernel_rfl)) ?_
   refine hK.out _ _ hsq11 ?_
   clear hK hO
   try go_frame
   refine' RL.td 2 (v := (.agg (u64s v42.l))) 69 #[.agg (u64s v25.l), .agg (u64s v41.l)] ?hc32 ?_
   case hc32 => (intro W hSW; exact (Cv42.out W).mono (fun e w9 h9 => ⟨h9.1, h9.2, Sp.Upd.trans hSW (Sp.Upd.of_below h9.2) (by simp)⟩))
   try go_frame
   refine RL.sk 3 (fun va hlva hsva K hK => ?_)
   have hO := (Hb8.out.below (Below.drew (Below.refl _ _)) Hb8.out.lt).below (hlq11.trans hlva) (by have := Hb8.out.lt; simpa using this)
   refine qg_ 76 _ _ rfl b8 (u64s (els [v42])) _ 76 rfl (by first | rfl | (rw [qj_])) hO (by kernel_rfl) (by first | rfl | kernel_rfl) (qp_ _) ?_
   intro Y hY hgY
   have hsY : Sp.Upd Z10 Y [b8] := Sp.Upd.trans hsva (Sp.Upd.of_grown1 hgY) (fun k hk => .inl (by simp at hk; simp [hk]))
   refine hK.out _ _ hsY ?_
   clear hK
   try go_frame
   refine RL.done (by kernel_rfl) (fun Z12 hlZ12 hsZ12 => ?_)
   have Hb8 := ϕ (show Rg.Blk Z12 b8 76 (u64s (els [v42])) from Rg.Blk.below hY hlZ12 hY.lt)
   have Hb4 := ϕ (qk_ hsZ12 Hb4.out (by simp; exact Nb4_b8.out))
   have HB := ϕ (qm_ HB.out hsZ12 (fun k hk => by simp at hk; rw [hk]; exact Gb8.out) HB.out.size)
   clear hsY hY hgY hlva hsva hlZ12 hsZ12 hO
   go_upto_region 9 with fail
   refine RL.start (fun W => Sp.Upd Z12 W [b4]) (by kernel_rfl) (Sp.Upd.trans (Sp.Upd.refl _ _) (Sp.Upd.of_below (Below.drew (Below.refl _ _))) (by simp)) ?_
   refine RL.tw 0 (v := .agg (u64s v42.l)) rfl (fun W hSW => qo_ 76 _ rfl b8 0 rfl (u64s v42.l) (qe_ (qk_ hSW Hb8.out (by simp; exact Nb8_b4.out)) 0 0 v42 rfl rfl (by simp)) underlying76 rfl (by kernel_rfl)) ?_
   try go_frame
   refine' RL.td 1 (v := (.bool v44y)) 79 #[.agg (u64s v42.l)] ?hc33 ?_
   case hc33 => (intro W hSW; exact (Cv44y.out W).mono (fun e w9 h9 => ⟨h9.1, h9.2, Sp.Upd.trans hSW (Sp.Upd.of_below h9.2) (by simp)⟩))
   try go_frame
   refine RL.tw 2 (v := .agg (u64s v42.l)) rfl (fun W hSW => qo_ 76 _ rfl b8 0 rfl (u64s v42.l) (qe_ (qk_ hSW Hb8.out (by simp; exact Nb8_b4.out)) 0 0 v42 rfl rfl (by simp)) underlying76 rfl (by kernel_rfl)) ?_
   try go_frame
   refine' RL.td 3 (v := (.agg (u64s v46y.l))) 68 #[.agg (u64s v42.l)] ?hc34 ?_
   case hc34 => (intro W hSW; exact (Cv46y.out W).mono (fun e w9 h9 => ⟨h9.1, h9.2, Sp.Upd.trans hSW (Sp.Upd.of_below h9.2) (by simp)⟩))
   try go_frame
   refine RL.tw 4 (v := .agg (u64s v42.l)) rfl (fun W hSW => qo_ 76 _ rfl b8 0 rfl (u64s v42.l) (qe_ (qk_ hSW Hb8.out (by simp; exact Nb8_b4.out)) 0 0 v42 rfl rfl (by simp)) underlying76 rfl (by kernel_rfl)) ?_
   try go_frame
   refine' RL.td 5 (v := (.agg (u64s v48y.l))) 143 #[.bool v44y, .agg (u64s v46y.l), .agg (u64s v42.l)] ?hc35 ?_
   case hc35 => (intro W hSW; exact (Cv48y.out W).mono (fun e w9 h9 => ⟨h9.1, h9.2, Sp.Upd.trans hSW (Sp.Upd.of_below h9.2) (by simp)⟩))
   try go_frame
   refine RL.sk 6 (fun va hlva hsva K hK => ?_)
   have hO := (Hb4.out.below (Below.drew (Below.refl _ _)) Hb4.out.lt).below hlva (by have := Hb4.out.lt; simpa using this)
   refine qg_ 76 _ _ rfl b4 (u64s (els [v48y])) _ 76 rfl (by first | rfl | (rw [qj_])) hO (by kernel_rfl) (by first | rfl | kernel_rfl) (qp_ _) ?_
   intro Y hY hgY
   have hsY : Sp.Upd Z12 Y [b4] := Sp.Upd.trans hsva (Sp.Upd.of_grown1 hgY) (fun k hk => .inl (by simp at hk; simp [hk]))
   refine hK.out _ _ hsY ?_
   clear hK
   try go_frame
   refine RL.tu 7 ?_; go_frame
   refine RL.done (by kernel_rfl) (fun Z13 hlZ13 hsZ13 => ?_)
   have Hb4 := ϕ (show Rg.Blk Z13 b4 76 (u64s (els [v48y])) from Rg.Blk.below hY hlZ13 hY.lt)
   have HB := ϕ (qm_ HB.out hsZ13 (fun k hk => by simp at hk; rw [hk]; exact Gb4.out) HB.out.size)
   clear hsY hY hgY hlva hsva hlZ13 hsZ13 hO
   go_wp2_with fail
   refine bodyPost_ret (v := .tuple #[.agg (u64s (els [v48y])), .bool true])
    (ja_ results116 _ _ b4 76 _ (0, 0) _ _ rfl rfl Hb4.out underlying76 rfl (by kernel_rfl)) rfl ?_
   exact ⟨rfl, HB.out⟩
  | false =>
   have tk11_0 := trivial
   go_wp2_with (clear tk11_0; (with_reducible refine qd_ ?_); refine Cv.qs_ rfl 76 _ _ rfl b4 (u64s (els [zE])) (u64s (els [zE])) 76 rfl (by first | rfl | (rw [qj_])) Hb4.out (by kernel_rfl) (by first | rfl | kernel_rfl) (qp_ _) ?_; intro X12 hV hgV; have Hb4 := ϕ hV; have HB := ϕ (HB.out.grown hgV HB.out.size (fun j e => by cases e; exact Gb4.out)); clear hV hgV; have tk11_1 := trivial)
   clear tk11_1
   go_wp2_with fail
   refine bodyPost_ret (v := .tuple #[.agg (u64s (els [zE])), .bool false])
    (ja_ results116 _ _ b4 76 _ (0, 0) _ _ rfl rfl Hb4.out underlying76 rfl (by kernel_rfl)) rfl ?_
   exact ⟨rfl, HB.out⟩
end Kx
namespace Ed
open Go.Proofs.YtciibogkfbicfaaGreatDoor.Nt
structure RepE (p : Pt) (X Y Z T : F) : Prop where
 r : Rep p X Y Z
 t : T = p.x * p.y * Z
theorem ex_e (x1 y1 z1 x2 y2 z2 : F) : (y1 * z1 + x1 * z1) * (y2 * z2 + x2 * z2) - (y1 * z1 - x1 * z1) * (y2 * z2 - x2 * z2) = (z1 * z2 + z1 * z2) * (x1 * y2 + y1 * x2) := by grobner
theorem ex_h (x1 y1 z1 x2 y2 z2 : F) : (y1 * z1 + x1 * z1) * (y2 * z2 + x2 * z2) + (y1 * z1 - x1 * z1) * (y2 * z2 - x2 * z2) = (z1 * z2 + z1 * z2) * (y1 * y2 + x1 * x2) := by grobner
theorem ex_f (d x1 y1 z1 x2 y2 z2 : F) : (z1 * z2 + z1 * z2) - (x1 * y1 * z1) * (d + d) * (x2 * y2 * z2) = (z1 * z2 + z1 * z2) * (1 - d * x1 * x2 * y1 * y2) := by grobner
theorem ex_g (d x1 y1 z1 x2 y2 z2 : F) : (z1 * z2 + z1 * z2) + (x1 * y1 * z1) * (d + d) * (x2 * y2 * z2) = (z1 * z2 + z1 * z2) * (1 + d * x1 * x2 * y1 * y2) := by grobner
theorem ex_x (k N D G u : F) (hu : G * u = 1) : k * N * (k * D) = N * u * (k * D * (k * G)) := by
 have : N * u * (k * D * (k * G)) = k * N * (k * D) * (G * u) := by grobner
 rw [this, hu]; grobner
theorem ex_y (k M D G v : F) (hv : D * v = 1) : k * G * (k * M) = M * v * (k * D * (k * G)) := by
 have : M * v * (k * D * (k * G)) = k * G * (k * M) * (D * v) := by grobner
 rw [this, hv]; grobner
theorem ex_t (k N M D G u v : F) (hu : G * u = 1) (hv : D * v = 1) : k * N * (k * M) = N * u * (M * v) * (k * D * (k * G)) := by
 have : N * u * (M * v) * (k * D * (k * G)) = k * N * (k * M) * ((G * u) * (D * v)) := by grobner
 rw [this, hu, hv]; grobner
theorem two_k (z : F) : z + z = 2 * z := by grobner
theorem RepE.add {p q : Pt} {X1 Y1 Z1 T1 X2 Y2 Z2 T2 : F} (hp : RepE p X1 Y1 Z1 T1) (hq : RepE q X2 Y2 Z2 T2) :
 RepE (p.add q) (((Y1 + X1) * (Y2 + X2) - (Y1 - X1) * (Y2 - X2)) * ((Z1 * Z2 + Z1 * Z2) - T1 * (dE + dE) * T2)) (((Z1 * Z2 + Z1 * Z2) + T1 * (dE + dE) * T2) * ((Y1 + X1) * (Y2 + X2) + (Y1 - X1) * (Y2 - X2)))
  (((Z1 * Z2 + Z1 * Z2) - T1 * (dE + dE) * T2) * ((Z1 * Z2 + Z1 * Z2) + T1 * (dE + dE) * T2)) (((Y1 + X1) * (Y2 + X2) - (Y1 - X1) * (Y2 - X2)) * ((Y1 + X1) * (Y2 + X2) + (Y1 - X1) * (Y2 - X2))) := by
 obtain ⟨⟨a1, a2, a3⟩, a4⟩ := hp
 obtain ⟨⟨b1, b2, b3⟩, b4⟩ := hq
 subst a1 a2 a4 b1 b2 b4
 have hm := den_m p.h q.h
 have hpp := den_p p.h q.h
 have hk : Z1 * Z2 + Z1 * Z2 ≠ 0 := by rw [two_k]; exact jp_ two_ne (jp_ a3 b3)
 rw [ex_e, ex_h, ex_f, ex_g]
 refine ⟨⟨?_, ?_, ?_⟩, ?_⟩
 · exact ex_x _ _ _ _ _ (qv_ hpp)
 · exact ex_y _ _ _ _ _ (qv_ hm)
 · exact jp_ (jp_ hk hm) (jp_ hk hpp)
 · exact ex_t _ _ _ _ _ _ _ (qv_ hpp) (qv_ hm)
theorem RepE.zero : RepE Pt.zero 0 1 1 0 := ⟨Rep.zero, by show (0 : F) = 0 * 1 * 1; grobner⟩
theorem RepE.of (p : Pt) : RepE p p.x p.y 1 (p.x * p.y) := ⟨Rep.of p, by rw [m_one]⟩
theorem n_z (x z : F) : 0 - x * z = (0 - x) * z := by grobner
theorem n_t (x y z : F) : 0 - x * y * z = (0 - x) * y * z := by grobner
theorem RepE.neg {p : Pt} {X Y Z T : F} (h : RepE p X Y Z T) : RepE p.neg (0 - X) Y Z (0 - T) := by
 obtain ⟨⟨a1, a2, a3⟩, a4⟩ := h
 subst a1 a4
 exact ⟨⟨n_z _ _, a2, a3⟩, n_t _ _ _⟩
end Ed
namespace RL
open Go.RowKit
def pa (b : Nat) : Value := .pointer (some ⟨b, 0, none⟩)
def ptb (x : Bool) (d : Option Tmp) (v : Value) (a : Act) : Act := if x = true then a.put d v else a
theorem put_ptb {x : Bool} {d d' : Option Tmp} {v u : Value} {a : Act} (h : ∀ e, d = some e → d' ≠ some e) : (ptb x d v a).put d' u = ptb x d v (a.put d' u) := by
 cases x
 · rfl
 · exact Act.put_comm _ _ _ h
def cntb (a b c d : Bool) : Nat := (if a = true then 0 else 1) + (if b = true then 0 else 1) + (if c = true then 0 else 1) + (if d = true then 0 else 1)
theorem cnt0 {b c d : Bool} {n : Nat} (h : cntb false b c d = n + 1) : cntb true b c d = n := by
 cases b <;> cases c <;> cases d <;> simp [cntb] at h ⊢ <;> omega
theorem cnt1 {a c d : Bool} {n : Nat} (h : cntb a false c d = n + 1) : cntb a true c d = n := by
 cases a <;> cases c <;> cases d <;> simp [cntb] at h ⊢ <;> omega
theorem cnt2 {a b d : Bool} {n : Nat} (h : cntb a b false d = n + 1) : cntb a b true d = n := by
 cases a <;> cases b <;> cases d <;> simp [cntb] at h ⊢ <;> omega
theorem cnt3 {a b c : Bool} {n : Nat} (h : cntb a b c false = n + 1) : cntb a b c true = n := by
 cases a <;> cases b <;> cases c <;> simp [cntb] at h ⊢ <;> omega
theorem alloc4 {P : Program} {md : Region.Mode} {ops : Array Oper} {Q : Exit → Act → World → Prop} {S : World → Prop} {i j k l : Nat} {oi oj ok ol : Oper} {fuel : Nat} {listed : Array Bool} {a : Act} {w : World} (T : TypeId) (Z : Array Value)
 (hoi : ops.toList[i]? = some oi) (hoj : ops.toList[j]? = some oj) (hok : ops.toList[k]? = some ok) (hol : ops.toList[l]? = some ol)
 (hl0 : ((((listed.setIfInBounds i false).setIfInBounds j false).setIfInBounds k false).setIfInBounds l false) = listed)
 (hR : ∀ xi xj xk xl : Bool, (xi && xj && xk && xl) = false → Region.ready md ops ((((listed.setIfInBounds i xi).setIfInBounds j xj).setIfInBounds k xk).setIfInBounds l xl) = (if xi = true then [] else [i]) ++ ((if xj = true then [] else [j]) ++ ((if xk = true then [] else [k]) ++ (if xl = true then [] else [l]))))
 (hn : i ≠ j ∧ i ≠ k ∧ i ≠ l ∧ j ≠ k ∧ j ≠ l ∧ k ≠ l) (hd : oi.dst ≠ oj.dst ∧ oi.dst ≠ ok.dst ∧ oi.dst ≠ ol.dst ∧ oj.dst ≠ ok.dst ∧ oj.dst ≠ ol.dst ∧ ok.dst ≠ ol.dst)
 (hwi : ∀ a : Act, Region.wanted oi (yielded ops a.tmps) = true) (hwj : ∀ a : Act, Region.wanted oj (yielded ops a.tmps) = true) (hwk : ∀ a : Act, Region.wanted ok (yielded ops a.tmps) = true) (hwl : ∀ a : Act, Region.wanted ol (yielded ops a.tmps) = true)
 (hri : ∀ (a : Act) (W : World), (execOp a.eval oi).run P W = .ok (.value (.pointer (some ⟨W.heap.size, 0, none⟩))) (W.alloc (.cells Z T)))
 (hrj : ∀ (a : Act) (W : World), (execOp a.eval oj).run P W = .ok (.value (.pointer (some ⟨W.heap.size, 0, none⟩))) (W.alloc (.cells Z T)))
 (hrk : ∀ (a : Act) (W : World), (execOp a.eval ok).run P W = .ok (.value (.pointer (some ⟨W.heap.size, 0, none⟩))) (W.alloc (.cells Z T)))
 (hrl : ∀ (a : Act) (W : World), (execOp a.eval ol).run P W = .ok (.value (.pointer (some ⟨W.heap.size, 0, none⟩))) (W.alloc (.cells Z T)))
 (hS : ∀ W o, S W → S (W.alloc o))
 (h : ∀ b1 b2 b3 b4 W, Lat w W → S W → (b1 ≠ b2 ∧ b1 ≠ b3 ∧ b1 ≠ b4 ∧ b2 ≠ b3 ∧ b2 ≠ b4 ∧ b3 ≠ b4) → (w.heap.size ≤ b1 ∧ w.heap.size ≤ b2 ∧ w.heap.size ≤ b3 ∧ w.heap.size ≤ b4) → Rg.Blk W b1 T Z → Rg.Blk W b2 T Z → Rg.Blk W b3 T Z → Rg.Blk W b4 T Z →
  H P md ops Q S W fuel ((((listed.setIfInBounds i true).setIfInBounds j true).setIfInBounds k true).setIfInBounds l true) ((((a.put oi.dst (.pointer (some ⟨b1, 0, none⟩))).put oj.dst (.pointer (some ⟨b2, 0, none⟩))).put ok.dst (.pointer (some ⟨b3, 0, none⟩))).put ol.dst (.pointer (some ⟨b4, 0, none⟩)))) : H P md ops Q S w (fuel + 4) listed a := by
 obtain ⟨hnij, hnik, hnil, hnjk, hnjl, hnkl⟩ := hn
 obtain ⟨hdij, hdik, hdil, hdjk, hdjl, hdkl⟩ := hd
 have key : ∀ n xi xj xk xl, cntb xi xj xk xl = n → ∀ bi bj bk bl W, (Lat w W ∧ S W ∧ (xi = true → Rg.Blk W bi T Z ∧ w.heap.size ≤ bi) ∧ (xj = true → Rg.Blk W bj T Z ∧ w.heap.size ≤ bj) ∧ (xk = true → Rg.Blk W bk T Z ∧ w.heap.size ≤ bk) ∧ (xl = true → Rg.Blk W bl T Z ∧ w.heap.size ≤ bl) ∧ (xi = true → xj = true → bi ≠ bj) ∧ (xi = true → xk = true → bi ≠ bk) ∧ (xi = true → xl = true → bi ≠ bl) ∧ (xj = true → xk = true → bj ≠ bk) ∧ (xj = true → xl = true → bj ≠ bl) ∧ (xk = true → xl = true → bk ≠ bl)) → H P md ops Q S W (fuel + n) ((((listed.setIfInBounds i xi).setIfInBounds j xj).setIfInBounds k xk).setIfInBounds l xl) (ptb xl ol.dst (pa bl) (ptb xk ok.dst (pa bk) (ptb xj oj.dst (pa bj) (ptb xi oi.dst (pa bi) a)))) := by
  intro n
  induction n with
  | zero =>
   intro xi xj xk xl hn bi bj bk bl W hI
   have hx : xi = true ∧ xj = true ∧ xk = true ∧ xl = true := by cases xi <;> cases xj <;> cases xk <;> cases xl <;> simp [cntb] at hn ⊢
   obtain ⟨rfl, rfl, rfl, rfl⟩ := hx
   obtain ⟨i1, i2, p0, p1, p2, p3, q0, q1, q2, q3, q4, q5⟩ := hI
   exact h bi bj bk bl W i1 i2 ⟨q0 rfl rfl, q1 rfl rfl, q2 rfl rfl, q3 rfl rfl, q4 rfl rfl, q5 rfl rfl⟩ ⟨(p0 rfl).2, (p1 rfl).2, (p2 rfl).2, (p3 rfl).2⟩ (p0 rfl).1 (p1 rfl).1 (p2 rfl).1 (p3 rfl).1
  | succ n ih =>
  intro xi xj xk xl hn bi bj bk bl W0 hI0
  intro W hlW hsW
  have hI : (Lat w W ∧ S W ∧ (xi = true → Rg.Blk W bi T Z ∧ w.heap.size ≤ bi) ∧ (xj = true → Rg.Blk W bj T Z ∧ w.heap.size ≤ bj) ∧ (xk = true → Rg.Blk W bk T Z ∧ w.heap.size ≤ bk) ∧ (xl = true → Rg.Blk W bl T Z ∧ w.heap.size ≤ bl) ∧ (xi = true → xj = true → bi ≠ bj) ∧ (xi = true → xk = true → bi ≠ bk) ∧ (xi = true → xl = true → bi ≠ bl) ∧ (xj = true → xk = true → bj ≠ bk) ∧ (xj = true → xl = true → bj ≠ bl) ∧ (xk = true → xl = true → bk ≠ bl)) := by
   obtain ⟨i1, i2, p0, p1, p2, p3, q0, q1, q2, q3, q4, q5⟩ := hI0
   exact ⟨i1.trans hlW, hsW, fun e => ⟨(p0 e).1.below hlW (p0 e).1.lt, (p0 e).2⟩, fun e => ⟨(p1 e).1.below hlW (p1 e).1.lt, (p1 e).2⟩, fun e => ⟨(p2 e).1.below hlW (p2 e).1.lt, (p2 e).2⟩, fun e => ⟨(p3 e).1.below hlW (p3 e).1.lt, (p3 e).2⟩, q0, q1, q2, q3, q4, q5⟩
  have hxf : (xi && xj && xk && xl) = false := by cases xi <;> cases xj <;> cases xk <;> cases xl <;> first | rfl | (simp [cntb] at hn)
  refine ⟨fun h0 => ?_, fun k0 hk => ?_⟩
  · rw [hR _ _ _ _ hxf] at h0
    simp only [List.append_eq_nil_iff] at h0
    simp only [cntb] at hn
    obtain ⟨z1, z2, z3, z4⟩ := h0
    cases xi <;> cases xj <;> cases xk <;> cases xl <;> simp at z1 z2 z3 z4 hn
  rw [hR _ _ _ _ hxf] at hk
  clear hxf
  simp only [List.mem_append] at hk
  rcases hk with hk | hk | hk | hk
  · -- i
    cases hxi : xi with
    | true => rw [hxi] at hk; cases hk
    | false =>
     subst hxi
     rw [if_neg (by decide), List.mem_singleton] at hk
     rw [hk]
     refine wpOp_step (by simpa using hoi) fun K hK => ?_
     rw [if_pos (hwi _)]
     unfold Oper.wp
     rw [hri]
     refine hK _ _ ⟨hS _ _ hI.2.1, ?_⟩
     have e1 : ((((listed.setIfInBounds i false).setIfInBounds j xj).setIfInBounds k xk).setIfInBounds l xl).setIfInBounds i true = ((((listed.setIfInBounds i true).setIfInBounds j xj).setIfInBounds k xk).setIfInBounds l xl) := by
      rw [Array.setIfInBounds_comm _ _ (show l ≠ i from fun e => hnil e.symm)]
      rw [Array.setIfInBounds_comm _ _ (show k ≠ i from fun e => hnik e.symm)]
      rw [Array.setIfInBounds_comm _ _ (show j ≠ i from fun e => hnij e.symm)]
      rw [Array.setIfInBounds_setIfInBounds]
     have e2 : Act.put (ptb xl ol.dst (pa bl) (ptb xk ok.dst (pa bk) (ptb xj oj.dst (pa bj) (ptb false oi.dst (pa bi) a)))) oi.dst (pa W.heap.size) = (ptb xl ol.dst (pa bl) (ptb xk ok.dst (pa bk) (ptb xj oj.dst (pa bj) (ptb true oi.dst (pa W.heap.size) a)))) := by
      rw [put_ptb (fun d h1 h2 => hdil (h2.trans h1.symm))]
      rw [put_ptb (fun d h1 h2 => hdik (h2.trans h1.symm))]
      rw [put_ptb (fun d h1 h2 => hdij (h2.trans h1.symm))]
      rfl
     rw [e1]
     show H P md ops Q S (W.alloc (.cells Z T)) _ _ (Act.put _ _ (pa W.heap.size))
     rw [e2]
     refine ih _ _ _ _ (cnt0 hn) _ _ _ _ _ ?_
     obtain ⟨i1, i2, p0, p1, p2, p3, q0, q1, q2, q3, q4, q5⟩ := hI
     have hz := Below.size i1
     refine ⟨i1.trans ((Below.refl _ _).alloc (Nat.le_refl _) _), hS _ _ i2, ?_, ?_, ?_, ?_, ?_, ?_, ?_, ?_, ?_, ?_⟩
     · exact fun _ => ⟨Rg.Blk.new W Z T, hz⟩
     · exact fun h => ⟨(p1 h).1.alloc _, (p1 h).2⟩
     · exact fun h => ⟨(p2 h).1.alloc _, (p2 h).2⟩
     · exact fun h => ⟨(p3 h).1.alloc _, (p3 h).2⟩
     · exact fun _ h e => absurd ((p1 h).1.lt) (by omega)
     · exact fun _ h e => absurd ((p2 h).1.lt) (by omega)
     · exact fun _ h e => absurd ((p3 h).1.lt) (by omega)
     · exact q3
     · exact q4
     · exact q5
  · -- j
    cases hxj : xj with
    | true => rw [hxj] at hk; cases hk
    | false =>
     subst hxj
     rw [if_neg (by decide), List.mem_singleton] at hk
     rw [hk]
     refine wpOp_step (by simpa using hoj) fun K hK => ?_
     rw [if_pos (hwj _)]
     unfold Oper.wp
     rw [hrj]
     refine hK _ _ ⟨hS _ _ hI.2.1, ?_⟩
     have e1 : ((((listed.setIfInBounds i xi).setIfInBounds j false).setIfInBounds k xk).setIfInBounds l xl).setIfInBounds j true = ((((listed.setIfInBounds i xi).setIfInBounds j true).setIfInBounds k xk).setIfInBounds l xl) := by
      rw [Array.setIfInBounds_comm _ _ (show l ≠ j from fun e => hnjl e.symm)]
      rw [Array.setIfInBounds_comm _ _ (show k ≠ j from fun e => hnjk e.symm)]
      rw [Array.setIfInBounds_setIfInBounds]
     have e2 : Act.put (ptb xl ol.dst (pa bl) (ptb xk ok.dst (pa bk) (ptb false oj.dst (pa bj) (ptb xi oi.dst (pa bi) a)))) oj.dst (pa W.heap.size) = (ptb xl ol.dst (pa bl) (ptb xk ok.dst (pa bk) (ptb true oj.dst (pa W.heap.size) (ptb xi oi.dst (pa bi) a)))) := by
      rw [put_ptb (fun d h1 h2 => hdjl (h2.trans h1.symm))]
      rw [put_ptb (fun d h1 h2 => hdjk (h2.trans h1.symm))]
      rfl
     rw [e1]
     show H P md ops Q S (W.alloc (.cells Z T)) _ _ (Act.put _ _ (pa W.heap.size))
     rw [e2]
     refine ih _ _ _ _ (cnt1 hn) _ _ _ _ _ ?_
     obtain ⟨i1, i2, p0, p1, p2, p3, q0, q1, q2, q3, q4, q5⟩ := hI
     have hz := Below.size i1
     refine ⟨i1.trans ((Below.refl _ _).alloc (Nat.le_refl _) _), hS _ _ i2, ?_, ?_, ?_, ?_, ?_, ?_, ?_, ?_, ?_, ?_⟩
     · exact fun h => ⟨(p0 h).1.alloc _, (p0 h).2⟩
     · exact fun _ => ⟨Rg.Blk.new W Z T, hz⟩
     · exact fun h => ⟨(p2 h).1.alloc _, (p2 h).2⟩
     · exact fun h => ⟨(p3 h).1.alloc _, (p3 h).2⟩
     · exact fun h _ e => absurd ((p0 h).1.lt) (by omega)
     · exact q1
     · exact q2
     · exact fun _ h e => absurd ((p2 h).1.lt) (by omega)
     · exact fun _ h e => absurd ((p3 h).1.lt) (by omega)
     · exact q5
  · -- k
    cases hxk : xk with
    | true => rw [hxk] at hk; cases hk
    | false =>
     subst hxk
     rw [if_neg (by decide), List.mem_singleton] at hk
     rw [hk]
     refine wpOp_step (by simpa using hok) fun K hK => ?_
     rw [if_pos (hwk _)]
     unfold Oper.wp
     rw [hrk]
     refine hK _ _ ⟨hS _ _ hI.2.1, ?_⟩
     have e1 : ((((listed.setIfInBounds i xi).setIfInBounds j xj).setIfInBounds k false).setIfInBounds l xl).setIfInBounds k true = ((((listed.setIfInBounds i xi).setIfInBounds j xj).setIfInBounds k true).setIfInBounds l xl) := by
      rw [Array.setIfInBounds_comm _ _ (show l ≠ k from fun e => hnkl e.symm)]
      rw [Array.setIfInBounds_setIfInBounds]
     have e2 : Act.put (ptb xl ol.dst (pa bl) (ptb false ok.dst (pa bk) (ptb xj oj.dst (pa bj) (ptb xi oi.dst (pa bi) a)))) ok.dst (pa W.heap.size) = (ptb xl ol.dst (pa bl) (ptb true ok.dst (pa W.heap.size) (ptb xj oj.dst (pa bj) (ptb xi oi.dst (pa bi) a)))) := by
      rw [put_ptb (fun d h1 h2 => hdkl (h2.trans h1.symm))]
      rfl
     rw [e1]
     show H P md ops Q S (W.alloc (.cells Z T)) _ _ (Act.put _ _ (pa W.heap.size))
     rw [e2]
     refine ih _ _ _ _ (cnt2 hn) _ _ _ _ _ ?_
     obtain ⟨i1, i2, p0, p1, p2, p3, q0, q1, q2, q3, q4, q5⟩ := hI
     have hz := Below.size i1
     refine ⟨i1.trans ((Below.refl _ _).alloc (Nat.le_refl _) _), hS _ _ i2, ?_, ?_, ?_, ?_, ?_, ?_, ?_, ?_, ?_, ?_⟩
     · exact fun h => ⟨(p0 h).1.alloc _, (p0 h).2⟩
     · exact fun h => ⟨(p1 h).1.alloc _, (p1 h).2⟩
     · exact fun _ => ⟨Rg.Blk.new W Z T, hz⟩
     · exact fun h => ⟨(p3 h).1.alloc _, (p3 h).2⟩
     · exact q0
     · exact fun h _ e => absurd ((p0 h).1.lt) (by omega)
     · exact q2
     · exact fun h _ e => absurd ((p1 h).1.lt) (by omega)
     · exact q4
     · exact fun _ h e => absurd ((p3 h).1.lt) (by omega)
  · -- l
    cases hxl : xl with
    | true => rw [hxl] at hk; cases hk
    | false =>
     subst hxl
     rw [if_neg (by decide), List.mem_singleton] at hk
     rw [hk]
     refine wpOp_step (by simpa using hol) fun K hK => ?_
     rw [if_pos (hwl _)]
     unfold Oper.wp
     rw [hrl]
     refine hK _ _ ⟨hS _ _ hI.2.1, ?_⟩
     have e1 : ((((listed.setIfInBounds i xi).setIfInBounds j xj).setIfInBounds k xk).setIfInBounds l false).setIfInBounds l true = ((((listed.setIfInBounds i xi).setIfInBounds j xj).setIfInBounds k xk).setIfInBounds l true) := by
      rw [Array.setIfInBounds_setIfInBounds]
     have e2 : Act.put (ptb false ol.dst (pa bl) (ptb xk ok.dst (pa bk) (ptb xj oj.dst (pa bj) (ptb xi oi.dst (pa bi) a)))) ol.dst (pa W.heap.size) = (ptb true ol.dst (pa W.heap.size) (ptb xk ok.dst (pa bk) (ptb xj oj.dst (pa bj) (ptb xi oi.dst (pa bi) a)))) := by
      rfl
     rw [e1]
     show H P md ops Q S (W.alloc (.cells Z T)) _ _ (Act.put _ _ (pa W.heap.size))
     rw [e2]
     refine ih _ _ _ _ (cnt3 hn) _ _ _ _ _ ?_
     obtain ⟨i1, i2, p0, p1, p2, p3, q0, q1, q2, q3, q4, q5⟩ := hI
     have hz := Below.size i1
     refine ⟨i1.trans ((Below.refl _ _).alloc (Nat.le_refl _) _), hS _ _ i2, ?_, ?_, ?_, ?_, ?_, ?_, ?_, ?_, ?_, ?_⟩
     · exact fun h => ⟨(p0 h).1.alloc _, (p0 h).2⟩
     · exact fun h => ⟨(p1 h).1.alloc _, (p1 h).2⟩
     · exact fun h => ⟨(p2 h).1.alloc _, (p2 h).2⟩
     · exact fun _ => ⟨Rg.Blk.new W Z T, hz⟩
     · exact q0
     · exact q1
     · exact fun h _ e => absurd ((p0 h).1.lt) (by omega)
     · exact q3
     · exact fun h _ e => absurd ((p1 h).1.lt) (by omega)
     · exact fun h _ e => absurd ((p2 h).1.lt) (by omega)
 intro w' hl hs
 have := key 4 false false false false rfl (bi := 0) (bj := 0) (bk := 0) (bl := 0) w' ⟨hl, hs, by simp, by simp, by simp, by simp, by simp, by simp, by simp, by simp, by simp, by simp⟩
 rw [hl0] at this
 exact this w' (Lat.refl w') hs
end RL
namespace Kx
open Go.RowKit Go.Proofs.YtciibogkfbicfaaGreatDoor.Cl Go.Proofs.YtciibogkfbicfaaGreatDoor.Ed
def Rq (p : Pt) (x y z t : E) : Prop := ∃ X Y Z T, El x X ∧ El y Y ∧ El z Z ∧ El t T ∧ RepE p X Y Z T
theorem fe_1 : fe 1 = 1 := by decide +kernel
theorem built_p (x y z t : E) : prog.built 78 [(0, .agg (u64s x.l)), (1, .agg (u64s y.l)), (2, .agg (u64s z.l)), (3, .agg (u64s t.l))] = some (u64s (els [x, y, z, t])) := by
 cases x; cases y; cases z; cases t; kernel_rfl
theorem zero_e : ∃ x y z t, Rq Pt.zero x y z t ∧ ∀ W : World, Calls prog 74 #[] W fun e w' => e = .returned (.agg (u64s (els [x, y, z, t]))) ∧ Below W.heap.size W w' := by
 have EzE := ϕ zE_e
 obtain ⟨v2, ev2, cv2⟩ := small_e 1 (by decide) fe_1
 have Ev2 := ϕ ev2
 have Cv2 := ϕ cv2
 clear ev2 cv2
 obtain ⟨v3, ev3, cv3⟩ := small_e 1 (by decide) fe_1
 have Ev3 := ϕ ev3
 have Cv3 := ϕ cv3
 clear ev3 cv3
 refine ⟨zE, v2, v3, zE, ⟨_, _, _, _, EzE.out, Ev2.out, Ev3.out, EzE.out, RepE.zero⟩, fun w => ?_⟩
 go_enter func74, ntmps74
 go_upto_region 1 with fail
 have HB := ϕ (Below.refl w.heap.size w)
 obtain ⟨b0, hb0⟩ : ∃ n, w.heap.size = n := exr
 have Gb0 := ϕ (show w.heap.size ≤ b0 from hb0 ▸ HB.out.size)
 have Hb0 := ϕ (show Rg.Blk (w.alloc (.cells q20 78)) b0 78 (u64s (els [zE, zE, zE, zE])) from Rg.Blk.newAt hb0.symm _ _)
 have HB := ϕ (HB.out.alloc HB.out.size (.cells q20 78))
 rw [hb0]
 clear hb0
 generalize (w.alloc (.cells q20 78)) = Y1 at *
 have tk2_0 := trivial
 go_wp2_with (first
  | (clear tk2_0; go_at_call 67; refine (Cv2.out Y1).mono ?_; rintro e W3 ⟨rfl, hb9⟩; have Hb0 := bl Hb0 hb9; have HB := tm HB hb9; clear hb9; have tk2_1 := trivial)
  | (clear tk2_1; go_at_call 67; refine (Cv3.out W3).mono ?_; rintro e W4 ⟨rfl, hb9⟩; have Hb0 := bl Hb0 hb9; have HB := tm HB hb9; clear hb9; have tk2_2 := trivial)
  | (clear tk2_2; (with_reducible refine qd_ ?_); refine ji_ rfl 78 _ rfl #[(0, .agg (u64s zE.l)), (1, .agg (u64s v2.l)), (2, .agg (u64s v3.l)), (3, .agg (u64s zE.l))] (by go_simp; try (first | rfl | exact ⟨rfl, rfl⟩)) (u64s (els [zE, v2, v3, zE])) (built_p _ _ _ _) ?_; have tk2_3 := trivial)
  | (clear tk2_3; (with_reducible refine qd_ ?_); refine Cv.qs_ rfl 78 _ _ rfl b0 (u64s (els [zE, v2, v3, zE])) (u64s (els [zE, zE, zE, zE])) 78 rfl (by first | rfl | (rw [qj_])) Hb0.out (by kernel_rfl) (by first | rfl | kernel_rfl) (qp_ _) ?_; intro X5 hV hgV;  have Hb0 := ϕ hV; have HB := ϕ (HB.out.grown hgV HB.out.size (fun j e => by cases e; exact Gb0.out)); clear hV hgV; have tk2_4 := trivial))
 clear tk2_4
 refine bodyPost_ret (v := .agg (u64s (els [zE, v2, v3, zE])))
  (results_cell_row results74 _ _ b0 78 _ (0, 0) _ rfl Hb0.out underlying78 rfl (by kernel_rfl)) rfl ?_
 exact ⟨rfl, HB.out⟩
theorem flat_e {x y : E} {a b : F} (hx : El x a) (hy : El y b) : ∃ z t, El z 1 ∧ El t (a * b) ∧ ∀ W : World, Calls prog 73 #[.agg (u64s x.l), .agg (u64s y.l)] W fun e w' => e = .returned (.agg (u64s (els [x, y, z, t]))) ∧ Below W.heap.size W w' := by
 have Ex := ϕ hx
 have Ey := ϕ hy
 clear hx hy
 obtain ⟨v7, ev7, cv7⟩ := small_e 1 (by decide) fe_1
 have Ev7 := ϕ ev7
 have Cv7 := ϕ cv7
 clear ev7 cv7
 obtain ⟨v10, ev10, cv10⟩ := mul_e Ex.out Ey.out
 have Ev10 := ϕ ev10
 have Cv10 := ϕ cv10
 clear ev10 cv10
 refine ⟨v7, v10, Ev7.out, Ev10.out, fun w => ?_⟩
 go_enter func73, ntmps73
 have tb0 := trivial
 go_upto_region 1 with (first
  | (clear tb0; (with_reducible refine qd_ ?_); refine Rg.qh_ rfl 76 _ rfl (u64s (els [x])) (by first | rfl | (rw [qj_])) ?_; intro X1 hX hbX hnX; have J0 := ϕ hX; have K0 := ϕ hbX; have M0 := ϕ hnX; clear hX hbX hnX; have tb1 := trivial)
  | (clear tb1; (with_reducible refine qd_ ?_); refine Rg.qh_ rfl 76 _ rfl (u64s (els [y])) (by first | rfl | (rw [qj_])) ?_; intro X2 hX hbX hnX; have J1 := ϕ hX; have K1 := ϕ hbX; have M1 := ϕ hnX; clear hX hbX hnX; have tb2 := trivial))
 clear tb2
 have HB := ϕ (Below.refl w.heap.size w)
 obtain ⟨b2, hb2⟩ : ∃ n, w.heap.size = n := exr
 have Hb2 := ϕ (show Rg.Blk X1 b2 76 (u64s (els [x])) from hb2 ▸ J0.out)
 have HB := ϕ (HB.out.trans (K0.out.mono HB.out.size))
 rw [hb2]
 clear hb2 J0 K0 M0
 obtain ⟨b3, hb3⟩ : ∃ n, X1.heap.size = n := exr
 have Hb2 := bl Hb2 K1.out
 have Hb3 := ϕ (show Rg.Blk X2 b3 76 (u64s (els [y])) from hb3 ▸ J1.out)
 have HB := ϕ (HB.out.trans (K1.out.mono HB.out.size))
 rw [hb3]
 clear hb3 J1 K1 M1
 obtain ⟨b4, hb4⟩ : ∃ n, X2.heap.size = n := exr
 have Gb4 := ϕ (show w.heap.size ≤ b4 from hb4 ▸ HB.out.size)
 have Nb2_b4 := ϕ (show ¬ b2 = b4 from by have h1 := Hb2.out.lt; omega)
 have Nb3_b4 := ϕ (show ¬ b3 = b4 from by have h1 := Hb3.out.lt; omega)
 have Hb2 := ϕ (Hb2.out.alloc (.cells q20 78))
 have Hb3 := ϕ (Hb3.out.alloc (.cells q20 78))
 have Hb4 := ϕ (show Rg.Blk (X2.alloc (.cells q20 78)) b4 78 (u64s (els [zE, zE, zE, zE])) from Rg.Blk.newAt hb4.symm _ _)
 have HB := ϕ (HB.out.alloc HB.out.size (.cells q20 78))
 rw [hb4]
 clear hb4
 generalize (X2.alloc (.cells q20 78)) = Y3 at *
 refine RL.start (fun W => Sp.Upd Y3 W [b4]) (by kernel_rfl) (Sp.Upd.trans (Sp.Upd.refl _ _) (Sp.Upd.of_below (Below.drew (Below.refl _ _))) (by simp)) ?_
 refine RL.tw 0 (v := .agg (u64s x.l)) rfl (fun W hSW => qo_ 76 _ rfl b2 0 rfl (u64s x.l) (qe_ (qk_ hSW Hb2.out (by simp; exact Nb2_b4.out)) 0 0 x rfl rfl (by simp)) underlying76 rfl (by kernel_rfl)) ?_
 try go_frame
 refine RL.tw 1 (v := .agg (u64s y.l)) rfl (fun W hSW => qo_ 76 _ rfl b3 0 rfl (u64s y.l) (qe_ (qk_ hSW Hb3.out (by simp; exact Nb3_b4.out)) 0 0 y rfl rfl (by simp)) underlying76 rfl (by kernel_rfl)) ?_
 try go_frame
 refine' RL.td 2 (v := (.agg (u64s v7.l))) 67 #[.int .u64 1] ?hc1 ?_
 case hc1 => (intro W hSW; exact (Cv7.out W).mono (fun e w9 h9 => ⟨h9.1, h9.2, Sp.Upd.trans hSW (Sp.Upd.of_below h9.2) (by simp)⟩))
 try go_frame
 refine RL.tw 3 (v := .agg (u64s x.l)) rfl (fun W hSW => qo_ 76 _ rfl b2 0 rfl (u64s x.l) (qe_ (qk_ hSW Hb2.out (by simp; exact Nb2_b4.out)) 0 0 x rfl rfl (by simp)) underlying76 rfl (by kernel_rfl)) ?_
 try go_frame
 refine RL.tw 4 (v := .agg (u64s y.l)) rfl (fun W hSW => qo_ 76 _ rfl b3 0 rfl (u64s y.l) (qe_ (qk_ hSW Hb3.out (by simp; exact Nb3_b4.out)) 0 0 y rfl rfl (by simp)) underlying76 rfl (by kernel_rfl)) ?_
 try go_frame
 refine' RL.td 5 (v := (.agg (u64s v10.l))) 69 #[.agg (u64s x.l), .agg (u64s y.l)] ?hc2 ?_
 case hc2 => (intro W hSW; exact (Cv10.out W).mono (fun e w9 h9 => ⟨h9.1, h9.2, Sp.Upd.trans hSW (Sp.Upd.of_below h9.2) (by simp)⟩))
 try go_frame
 refine RL.tw 6 (v := .agg (u64s (els [x, y, v7, v10]))) rfl (fun W hSW => run_build_op 78 _ rfl #[(0, .agg (u64s x.l)), (1, .agg (u64s y.l)), (2, .agg (u64s v7.l)), (3, .agg (u64s v10.l))] (by go_simp) _ (built_p _ _ _ _)) ?_
 try go_frame
 refine RL.sk 7 (fun va hlva hsva K hK => ?_)
 have hO := (Hb4.out.below (Below.drew (Below.refl _ _)) Hb4.out.lt).below hlva (by have := Hb4.out.lt; simpa using this)
 refine qg_ 78 _ _ rfl b4 (u64s (els [x, y, v7, v10])) _ 78 rfl (by first | rfl | (rw [qj_])) hO (by kernel_rfl) (by first | rfl | kernel_rfl) (qp_ _) ?_
 intro Y hY hgY
 have hsY : Sp.Upd Y3 Y [b4] := Sp.Upd.trans hsva (Sp.Upd.of_grown1 hgY) (fun k hk => .inl (by simp at hk; simp [hk]))
 refine hK.out _ _ hsY ?_
 clear hK
 try go_frame
 refine RL.done (by kernel_rfl) (fun Z4 hlZ4 hsZ4 => ?_)
 have Hb4 := ϕ (show Rg.Blk Z4 b4 78 (u64s (els [x, y, v7, v10])) from Rg.Blk.below hY hlZ4 hY.lt)
 have HB := ϕ (qm_ HB.out hsZ4 (fun k hk => by simp at hk; rw [hk]; exact Gb4.out) HB.out.size)
 clear hsY hY hgY hlva hsva hlZ4 hsZ4 hO
 go_wp2_with fail
 refine bodyPost_ret (v := .agg (u64s (els [x, y, v7, v10])))
  (results_cell_row results73 _ _ b4 78 _ (0, 0) _ rfl Hb4.out underlying78 rfl (by kernel_rfl)) rfl ?_
 exact ⟨rfl, HB.out⟩
theorem neg_q {x y z t : E} {p : Pt} (hp : Rq p x y z t) : ∃ x' t', Rq p.neg x' y z t' ∧ ∀ W : World, Calls prog 98 #[.agg (u64s (els [x, y, z, t]))] W fun e w' => e = .returned (.agg (u64s (els [x', y, z, t']))) ∧ Below W.heap.size W w' := by
 obtain ⟨X1, Y1, Z1, T1, ex1, ey1, ez1, et1, h1⟩ := hp
 have Ex := ϕ ex1
 have Ey := ϕ ey1
 have Ez := ϕ ez1
 have Et := ϕ et1
 have HR := ϕ (RepE.neg h1)
 clear ex1 ey1 ez1 et1 h1
 obtain ⟨v5, ev5, cv5⟩ := neg_e Ex.out
 have Ev5 := ϕ ev5
 have Cv5 := ϕ cv5
 clear ev5 cv5
 obtain ⟨v12, ev12, cv12⟩ := neg_e Et.out
 have Ev12 := ϕ ev12
 have Cv12 := ϕ cv12
 clear ev12 cv12
 refine ⟨v5, v12, ⟨_, _, _, _, Ev5.out, Ey.out, Ez.out, Ev12.out, HR.out⟩, fun w => ?_⟩
 clear HR
 go_enter func98, ntmps98
 have tb0 := trivial
 go_upto_region 1 with (clear tb0; (with_reducible refine qd_ ?_); refine Rg.qh_ rfl 78 _ rfl (u64s (els [x, y, z, t])) (by first | rfl | (rw [qj_])) ?_; intro X1 hX hbX hnX; have J0 := ϕ hX; have K0 := ϕ hbX; have M0 := ϕ hnX; clear hX hbX hnX; have tb1 := trivial)
 clear tb1
 have HB := ϕ (Below.refl w.heap.size w)
 obtain ⟨b1, hb1⟩ : ∃ n, w.heap.size = n := exr
 have Hb1 := ϕ (show Rg.Blk X1 b1 78 (u64s (els [x, y, z, t])) from hb1 ▸ J0.out)
 have HB := ϕ (HB.out.trans (K0.out.mono HB.out.size))
 rw [hb1]
 clear hb1 J0 K0 M0
 obtain ⟨b2, hb2⟩ : ∃ n, X1.heap.size = n := exr
 have Gb2 := ϕ (show w.heap.size ≤ b2 from hb2 ▸ HB.out.size)
 have Nb1_b2 := ϕ (show ¬ b1 = b2 from by have h1 := Hb1.out.lt; omega)
 have Hb1 := ϕ (Hb1.out.alloc (.cells q20 78))
 have Hb2 := ϕ (show Rg.Blk (X1.alloc (.cells q20 78)) b2 78 (u64s (els [zE, zE, zE, zE])) from Rg.Blk.newAt hb2.symm _ _)
 have HB := ϕ (HB.out.alloc HB.out.size (.cells q20 78))
 rw [hb2]
 clear hb2
 generalize (X1.alloc (.cells q20 78)) = Y2 at *
 refine RL.start (fun W => Sp.Upd Y2 W [b2]) (by kernel_rfl) (Sp.Upd.trans (Sp.Upd.refl _ _) (Sp.Upd.of_below (Below.drew (Below.refl _ _))) (by simp)) ?_
 refine RL.tu 0 ?_; go_frame
 refine RL.tw 1 (v := .agg (u64s x.l)) rfl (fun W hSW => qo_ 76 _ rfl b1 0 rfl (u64s x.l) (qe_ (qk_ hSW Hb1.out (by simp; exact Nb1_b2.out)) 0 0 x rfl rfl (by simp)) underlying76 rfl (by kernel_rfl)) ?_
 try go_frame
 refine' RL.td 2 (v := (.agg (u64s v5.l))) 68 #[.agg (u64s x.l)] ?hc4 ?_
 case hc4 => (intro W hSW; exact (Cv5.out W).mono (fun e w9 h9 => ⟨h9.1, h9.2, Sp.Upd.trans hSW (Sp.Upd.of_below h9.2) (by simp)⟩))
 try go_frame
 refine RL.tu 3 ?_; go_frame
 refine RL.tw 4 (v := .agg (u64s y.l)) rfl (fun W hSW => qo_ 76 _ rfl b1 5 rfl (u64s y.l) (qe_ (qk_ hSW Hb1.out (by simp; exact Nb1_b2.out)) 1 5 y rfl rfl (by simp)) underlying76 rfl (by kernel_rfl)) ?_
 try go_frame
 refine RL.tu 5 ?_; go_frame
 refine RL.tw 6 (v := .agg (u64s z.l)) rfl (fun W hSW => qo_ 76 _ rfl b1 10 rfl (u64s z.l) (qe_ (qk_ hSW Hb1.out (by simp; exact Nb1_b2.out)) 2 10 z rfl rfl (by simp)) underlying76 rfl (by kernel_rfl)) ?_
 try go_frame
 refine RL.tu 7 ?_; go_frame
 refine RL.tw 8 (v := .agg (u64s t.l)) rfl (fun W hSW => qo_ 76 _ rfl b1 15 rfl (u64s t.l) (qe_ (qk_ hSW Hb1.out (by simp; exact Nb1_b2.out)) 3 15 t rfl rfl (by simp)) underlying76 rfl (by kernel_rfl)) ?_
 try go_frame
 refine' RL.td 9 (v := (.agg (u64s v12.l))) 68 #[.agg (u64s t.l)] ?hc8 ?_
 case hc8 => (intro W hSW; exact (Cv12.out W).mono (fun e w9 h9 => ⟨h9.1, h9.2, Sp.Upd.trans hSW (Sp.Upd.of_below h9.2) (by simp)⟩))
 try go_frame
 refine RL.tw 10 (v := .agg (u64s (els [v5, y, z, v12]))) rfl (fun W hSW => run_build_op 78 _ rfl #[(0, .agg (u64s v5.l)), (1, .agg (u64s y.l)), (2, .agg (u64s z.l)), (3, .agg (u64s v12.l))] (by go_simp) _ (built_p _ _ _ _)) ?_
 try go_frame
 refine RL.sk 11 (fun va hlva hsva K hK => ?_)
 have hO := (Hb2.out.below (Below.drew (Below.refl _ _)) Hb2.out.lt).below hlva (by have := Hb2.out.lt; simpa using this)
 refine qg_ 78 _ _ rfl b2 (u64s (els [v5, y, z, v12])) _ 78 rfl (by first | rfl | (rw [qj_])) hO (by kernel_rfl) (by first | rfl | kernel_rfl) (qp_ _) ?_
 intro Y hY hgY
 have hsY : Sp.Upd Y2 Y [b2] := Sp.Upd.trans hsva (Sp.Upd.of_grown1 hgY) (fun k hk => .inl (by simp at hk; simp [hk]))
 refine hK.out _ _ hsY ?_
 clear hK
 try go_frame
 refine RL.done (by kernel_rfl) (fun Z3 hlZ3 hsZ3 => ?_)
 have Hb2 := ϕ (show Rg.Blk Z3 b2 78 (u64s (els [v5, y, z, v12])) from Rg.Blk.below hY hlZ3 hY.lt)
 have HB := ϕ (qm_ HB.out hsZ3 (fun k hk => by simp at hk; rw [hk]; exact Gb2.out) HB.out.size)
 clear hsY hY hgY hlva hsva hlZ3 hsZ3 hO
 go_wp2_with fail
 refine bodyPost_ret (v := .agg (u64s (els [v5, y, z, v12])))
  (results_cell_row results98 _ _ b2 78 _ (0, 0) _ rfl Hb2.out underlying78 rfl (by kernel_rfl)) rfl ?_
 exact ⟨rfl, HB.out⟩
end Kx
end Go.Proofs.YtciibogkfbicfaaGreatDoor
