/- Revoke's closure; slices.IndexFunc over keys. -/
import Derived.Test.YtgdbplciepiinaaDoorStSt
import Derived.Test.YtgdbplciepiinaaDoorBytesEq
set_option linter.unusedVariables false
set_option linter.unusedSimpArgs false
namespace Go.Proofs.YtgdbplciepiinaaDoor.St
open Go.RowKit Go.Proofs.YtgdbplciepiinaaDoor.Ow Go.Proofs.YtgdbplciepiinaaDoor.Mp Go.Maps Go.Proofs.YtgdbplciepiinaaDoor.Cv
theorem infoB : (Tryd.prog.info? 5).map (fun i => (i.zero, i.size, i.bytes)) = some (some (.int .u8 0), 1, 1) := by kernel_rfl
theorem Same_any (w : World) (x k : List UInt8) (hx : x.length = 32) (hk : k.length = 32) (kb : Nat) (hB : Rg.Blk w kb 34 (bytesV k)) :
    Calls Tryd.prog 26 #[.agg (bytesV x), .pointer (some ⟨kb, 0, none⟩)] w fun e w' => e = .returned (.bool (x == k)) ∧ Below w.heap.size w w' := by
  have HB := Lib.hid hB
  have HVX := Lib.hid (show (bytesV x).size = 32 by rw [bytesV_size, hx])
  have HVK := Lib.hid (show (bytesV k).size = 32 by rw [bytesV_size, hk])
  have HQ := Lib.hid (fun W : World => run_equalIn_bytes (P := Tryd.prog) W 34 5 32 Tryd.underlying34 Tryd.underlying5 infoB x k hx hk)
  clear hB hx hk
  go_enter Tryd.func26, Tryd.ntmps26
  go_wp2_with (first
    | (refine Rg.box_fresh rfl 34 _ rfl (bytesV x) rfl ?_; intro X hX hbX hnX; have HX := Lib.hid hX; have HBX := Lib.hid hbX; have HKX := Lib.hid (HB.out.below hbX HB.out.lt); have hq := HQ.out X; clear hX hbX hnX)
    | (refine load_cells rfl 34 _ rfl w.heap.size 0 rfl (bytesV x) _ (Bytes.of_blk HX.out).cells Tryd.underlying34 rfl (by rw [HVX.out]; kernel_rfl) ?_; skip)
    | (refine load_cells rfl 34 _ rfl kb 0 rfl (bytesV k) _ (Bytes.of_blk HKX.out).cells Tryd.underlying34 rfl (by rw [HVK.out]; kernel_rfl) ?_; skip))
  go_ret
  exact ⟨rfl, HBX.out⟩
/-- where k stands first; the length: nowhere -/
def idx (l : List (List UInt8)) (k : List UInt8) : Nat := l.findIdx (· == k)
theorem idx_at {l : List (List UInt8)} {k : List UInt8} {i : Nat} {x : List UInt8} (hx : l[i]? = some x) (h : x = k) (hn : ∀ j y, j < i → l[j]? = some y → y ≠ k) : idx l k = i := by
  have hi := (List.getElem?_eq_some_iff.1 hx).1
  unfold idx
  refine (List.findIdx_eq hi).2 ⟨?_, fun j hj => ?_⟩
  · rw [(List.getElem?_eq_some_iff.1 hx).2, h]; exact beq_self_eq_true k
  · rw [beq_eq_false_iff_ne]
    exact hn j _ hj (List.getElem?_eq_getElem (by omega))
theorem idx_none {l : List (List UInt8)} {k : List UInt8} (hn : ∀ (j : Nat) y, l[j]? = some y → y ≠ k) : idx l k = l.length := by
  unfold idx
  refine List.findIdx_eq_length.2 fun x hx => ?_
  obtain ⟨j, hj⟩ := List.mem_iff_getElem?.1 hx
  rw [beq_eq_false_iff_ne]
  exact hn j x hj
/-- the index that is told -/
@[irreducible] def idxR (l : List (List UInt8)) (k : List UInt8) (n : Nat) : Int := if idx l k < n then (idx l k : Int) else -1
set_option maxRecDepth 20000 in
set_option maxHeartbeats 4000000 in
theorem Index_any (w : World) (v : Value) (l : List (List UInt8)) (h : KS w v l) (hz : l.length ≤ 1000000) (k : List UInt8) (hk : k.length = 32) (kb : Nat) (hB : Rg.Blk w kb 34 (bytesV k)) :
    Calls Tryd.prog 32 #[v, .func (.func 26) #[] #[.pointer (some ⟨kb, 0, none⟩)]] w fun e w' => e = .returned (.int .i64 (idxR l k l.length)) ∧ Below w.heap.size w w' := by
  obtain ⟨A, c, rfl, hc, hm, hR, hl⟩ := h
  have HR := Lib.hid hR
  have HL := Lib.hid hl
  have HB := Lib.hid hB
  have HK := Lib.hid hk
  generalize hn : l.length = n at *
  have HN := Lib.hid hn
  clear hR hl hB hk hn
  go_enter Tryd.func32, Tryd.ntmps32
  go_wp2
  go_loopw [8] (fun i wr => ∃ j : Nat, j ≤ n ∧ i = .int .i64 j ∧ (∀ (m : Nat) y, m < j → l[m]? = some y → y ≠ k) ∧ Below w.heap.size w wr) (fun i _ => n - (intOf i).toNat)
  case atStart => exact ⟨0, Nat.zero_le _, rfl, fun m y h => by omega, Below.refl _ _⟩
  case round =>
    obtain ⟨j, hj, rfl, hne, hb⟩ := hrel
    have HNE := Lib.hid hne
    have HW := Lib.hid hb
    clear hne hb
    by_cases hlt : j < n
    · have hd : decide (j < n) = true := by simp; exact hlt
      have hik : (j : Int) < n := by omega
      have hik0 : (0 : Int) ≤ j := by omega
      obtain ⟨x, hx⟩ : ∃ x, l[j]? = some x := ⟨_, List.getElem?_eq_getElem (by rw [HN.out]; exact hlt)⟩
      have HX := Lib.hid hx
      have hxl := HL.out x (List.mem_of_getElem? hx)
      have HXL := Lib.hid hxl
      have hp : 0 < (cells l).length := by rw [cells_length l HL.out, HN.out]; omega
      obtain ⟨b, o, rfl, hbl, hcell⟩ := HR.out.place hp
      have HC := Lib.hid (show ∀ i v, (bytesV x)[i]? = some v → wr.cell? ⟨b, (o + j * 32) + i, none⟩ = some v from fun i v hv => by
        have := hcell (j * 32 + i) v (cells_at HL.out hx i v (by unfold bytesV at hv; rw [List.getElem?_toArray] at hv; exact hv))
        rw [← Nat.add_assoc] at this
        exact (HW.out.cell (p := ⟨b, o + j * 32 + i, none⟩) hbl).trans this)
      have HVX := Lib.hid (show (bytesV x).size = 32 by rw [bytesV_size, hxl])
      have HS := Lib.hid (Same_any wr x k hxl HK.out kb (HB.out.below HW.out HB.out.lt))
      clear hxl hp hcell hx
      by_cases he : x = k
      · have hxk : (x == k) = true := by rw [he]; exact beq_self_eq_true k
        rw [hxk] at HS
        have HI := Lib.hid (show idxR l k n = j by unfold idxR; rw [idx_at HX.out he HNE.out, if_pos hlt])
        clear he hxk
        go_wp2_with (first
          | (refine load_cells rfl 34 _ rfl b (o + j * 32) rfl (bytesV x) _ HC.out Tryd.underlying34 rfl (by rw [HVX.out]; kernel_rfl) ?_; skip)
          | (go_at_call 26; refine HS.out.mono ?_; rintro e ws ⟨rfl, hs⟩; skip; have HS1 := Lib.hid hs; clear hs))
        go_ret
        exact ⟨by rw [HI.out]; rfl, HW.out.trans (HS1.out.mono HW.out.size)⟩
      · have hxk : (x == k) = false := by rw [beq_eq_false_iff_ne]; exact he
        rw [hxk] at HS
        have HNE2 := Lib.hid (show ∀ (m : Nat) y, m < j + 1 → l[m]? = some y → y ≠ k from fun m y hm hy => by
          by_cases e : m = j
          · subst e; rw [HX.out] at hy; cases hy; exact he
          · exact HNE.out m y (by omega) hy)
        clear he hxk
        go_wp2_with (first
          | (refine load_cells rfl 34 _ rfl b (o + j * 32) rfl (bytesV x) _ HC.out Tryd.underlying34 rfl (by rw [HVX.out]; kernel_rfl) ?_; skip)
          | (go_at_call 26; refine HS.out.mono ?_; rintro e ws ⟨rfl, hs⟩; skip; have HS1 := Lib.hid hs; clear hs))
        go_roundw
        case rel =>
          first
            | exact ⟨j + 1, by omega, by go_num, HNE2.out, HW.out.trans (HS1.out.mono HW.out.size)⟩
            | ((repeat apply Exists.intro); refine ⟨?_, rfl⟩; exact ⟨j + 1, by omega, by go_num, HNE2.out, HW.out.trans (HS1.out.mono HW.out.size)⟩)
        case measure => (first | (simp [intOf]; done) | (simp [intOf]; omega))
    · obtain rfl : j = n := by omega
      have hd : decide (j < j) = false := by simp
      have HI := Lib.hid (show idxR l k j = -1 by unfold idxR; rw [idx_none (fun m y hy => HNE.out m y (by rw [← HN.out]; exact (List.getElem?_eq_some_iff.1 hy).1) hy), HN.out, if_neg (by omega)])
      go_wp2
      go_ret
      exact ⟨by rw [HI.out]; rfl, HW.out⟩
end Go.Proofs.YtgdbplciepiinaaDoor.St
