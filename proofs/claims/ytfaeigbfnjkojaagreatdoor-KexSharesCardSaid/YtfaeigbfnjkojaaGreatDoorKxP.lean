/- The field's Of. -/
import Derived.Test.YtfaeigbfnjkojaaGreatDoorKxO
set_option linter.unusedVariables false
set_option linter.unusedSimpArgs false
namespace Go.Proofs.YtfaeigbfnjkojaaGreatDoor.Kx
open Go.RowKit Go.Proofs.YtfaeigbfnjkojaaGreatDoor.Cl
theorem wrapI {x : Nat} (h : x < 1000000) : IntKind.i64.wrap (x : Int) = (x : Int) := by simp [IntKind.wrap, IntKind.bits, IntKind.signed]; omega
theorem shl_lt {d r : Nat} (hd : d ≤ 1) (hr : r < 51) : d * 2 ^ r < 18446744073709551616 := by
  have h1 : 2 ^ r ≤ 2 ^ 51 := Nat.pow_le_pow_right (by decide) (by omega)
  have h2 : d * 2 ^ r ≤ 1 * 2 ^ r := Nat.mul_le_mul_right _ hd
  have h3 : (2 : Nat) ^ 51 < 18446744073709551616 := by decide
  omega
set_option maxRecDepth 20000 in
set_option maxHeartbeats 2000000 in
theorem Of_any (w : World) (t : ByteArray) (ht : t.size = 32) : Calls Tryz.prog 20 #[.string t] w fun e w' => e = .returned (.agg (u64s (ofB t.data.toList).l)) ∧ Below w.heap.size w w' := by
  have HT := Lib.hid (show t.data.toList.length = 32 by rw [Array.length_toList]; exact ht)
  obtain ⟨N, hN⟩ : ∃ N, leN t.data.toList = N := ⟨_, rfl⟩
  have HNN := Lib.hid hN
  unfold ofB
  rw [hN]
  clear hN
  obtain ⟨rb, hrb⟩ : ∃ rb, w.heap.size = rb := ⟨_, rfl⟩
  obtain ⟨ab, hab⟩ : ∃ ab, rb + 1 = ab := ⟨_, rfl⟩
  go_enter Tryz.func20, Tryz.ntmps20
  go_upto_region 3 with fail
  rw [show (#[.int .u64 0, .int .u64 0, .int .u64 0, .int .u64 0, .int .u64 0] : Array Value) = Z5 from rfl]
  have HZ := Lib.hid (show Rg.Blk ((w.alloc (.cells Z5 53)).alloc (.cells Z5 53)) rb 53 Z5 from (hrb ▸ Rg.Blk.new w Z5 53).alloc _)
  have HR := Lib.hid (show Row ((w.alloc (.cells Z5 53)).alloc (.cells Z5 53)) ab 53 (spl (N % 2 ^ (min 0 255))).l from by
    rw [show (spl (N % 2 ^ min 0 255)).l = [0, 0, 0, 0, 0] from by rw [Nat.zero_min, Nat.pow_zero, Nat.mod_one]; decide]
    exact Rg.Blk.newAt (by simp; omega) _ _)
  have HB := Lib.hid (show Below rb w ((w.alloc (.cells Z5 53)).alloc (.cells Z5 53)) from hrb ▸ ((Below.refl _ _).alloc (Nat.le_refl _) _).alloc (by simp) _)
  have HNE := Lib.hid (show ab ≠ rb ∧ rb ≤ ab from by omega)
  have HXB := Lib.hid hrb
  try rw [hrb]
  try rw [hab]
  generalize ((w.alloc (.cells Z5 53)).alloc (.cells Z5 53)) = Y at *
  clear hrb hab
  go_loopw [10] (fun i wr => ∃ k : Nat, k ≤ 32 ∧ i = .int .i64 k ∧ Row wr ab 53 (spl (N % 2 ^ (min (8 * k) 255))).l ∧ Rg.Blk wr rb 53 Z5 ∧ Below rb w wr) (fun i _ => 32 - (intOf i).toNat)
  case atStart => exact ⟨0, Nat.zero_le _, rfl, HR.out, HZ.out, HB.out⟩
  case round =>
    obtain ⟨k, hk, rfl, hr, hz, hb⟩ := hrel
    clear HR HZ HB
    have HR := Lib.hid hr
    have HZ := Lib.hid hz
    have HB := Lib.hid hb
    clear hr hz hb
    by_cases hk5 : k < 32
    · have hk32 : k < t.size := by omega
      have hk0 : (0 : Int) ≤ k := by omega
      have hdk : decide ((k : Int) < 32) = true := by simp; omega
      go_upto_region 6 with fail
      go_loopw [13] (fun jj ws => ∃ j : Nat, j ≤ 8 ∧ jj = .int .i64 j ∧ Row ws ab 53 (spl (N % 2 ^ (min (8 * k + j) 255))).l ∧ Rg.Blk ws rb 53 Z5 ∧ Below rb w ws) (fun jj _ => 8 - (intOf jj).toNat)
      case atStart => exact ⟨0, Nat.zero_le _, rfl, HR.out, HZ.out, HB.out⟩
      case round =>
        obtain ⟨j, hj, rfl, hr, hz, hb⟩ := hrel
        clear HR HZ HB
        have HR := Lib.hid hr
        have HZ := Lib.hid hz
        have HB := Lib.hid hb
        clear hr hz hb
        by_cases hj8 : j < 8
        · have hj0 : (0 : Int) ≤ j := by omega
          have hdj : decide ((j : Int) < 8) = true := by simp; omega
          obtain ⟨m, hm⟩ : ∃ m, 8 * k + j = m := ⟨_, rfl⟩
          have hmz : 8 * (k : Int) + (j : Int) = (m : Int) := by omega
          by_cases hm255 : m < 255
          · have hdm : decide ((m : Int) < 255) = true := by simp; omega
            rw [show min (8 * k + j) 255 = m by omega] at HR
            obtain ⟨q, hq⟩ : ∃ q, m / 51 = q := ⟨_, rfl⟩
            obtain ⟨r, hr⟩ : ∃ r, m % 51 = r := ⟨_, rfl⟩
            have hq5 : q < 5 := by omega
            have hr51 : r < 51 := by omega
            have HLM := Lib.hid (show q < (spl (N % 2 ^ m)).l.length from hq5)
            have hq0 : (0 : Int) ≤ (q : Int) := by omega
            have hr0 : (0 : Int) ≤ (r : Int) := by omega
            have hqz : (q : Int) < 5 := by omega
            obtain ⟨b, hb⟩ : ∃ b, t[k].toNat = b := ⟨_, rfl⟩
            have hb256 : b < 256 := by rw [← hb]; exact t[k].toNat_lt
            have EB := Lib.hid hb
            obtain ⟨c, hc⟩ : ∃ c, b / 2 ^ j = c := ⟨_, rfl⟩
            have hc256 : c < 256 := by rw [← hc]; exact Nat.lt_of_le_of_lt (Nat.div_le_self _ _) hb256
            have ESR := Lib.hid (show (b : Int) / 2 ^ j = (c : Int) from by rw [← hc]; simp)
            obtain ⟨d, hd2⟩ : ∃ d, c % 2 = d := ⟨_, rfl⟩
            have hd1 : d ≤ 1 := by omega
            have EAN := Lib.hid (show bits .and .u8 (c : Int) 1 = (d : Int) from by rw [← hd2, ← Nat.and_one_is_mod]; exact u8_and_nat c 1 hc256 (by decide))
            obtain ⟨g, hg⟩ : ∃ g, d * 2 ^ r = g := ⟨_, rfl⟩
            have ESL := Lib.hid (show IntKind.u64.wrap ((d : Int) * 2 ^ r) = (g : Int) from by rw [show (d : Int) * 2 ^ r = ((d * 2 ^ r : Nat) : Int) by simp, wrapM, hg]; congr 1; rw [← hg]; exact Nat.mod_eq_of_lt (shl_lt hd1 hr51))
            obtain ⟨n1, hn1⟩ : ∃ n1, nth (spl (N % 2 ^ m)).l q = n1 := ⟨_, rfl⟩
            have EOR := Lib.hid (show bits .or .u64 (n1 : Int) (g : Int) = ((n1 ||| g : Nat) : Int) from u64_or_nat n1 g (by rw [← hn1]; exact spl_ok _ q) (by rw [← hg]; exact shl_lt hd1 hr51))
            have HN1 := Lib.hid hn1
            have hj64 : min j 8 = j := by omega
            have hr64 : min r 64 = r := by omega
            have EQ := Lib.hid (show IntKind.i64.wrap ((m : Int) / 51) = (q : Int) from by rw [show (m : Int) / 51 = (q : Int) by omega]; exact wrapI (by omega))
            have ER := Lib.hid (show (m : Int).tmod 51 = (r : Int) from by rw [Int.tmod_eq_emod_of_nonneg (by omega)]; omega)
            have EC := Lib.hid (show IntKind.u64.wrap (d : Int) = (d : Int) from by rw [wrapM]; congr 1; exact Nat.mod_eq_of_lt (by unfold M; omega))
            go_upto_region 10 with fail
            refine RT.start (fun W => Below wr.heap.size wr W) 18 1 (by kernel_rfl) (by decide) rfl (by kernel_rfl) (by kernel_rfl) (Below.drew (Below.refl _ _)) ?_
            refine' RT.takeV (i := 0) (v := _) rfl (by kernel_rfl) (by kernel_rfl) (by kernel_rfl) (by decide) (fun _ _ _ h => h) (by rfl) ?hk1 ?_
            case hk1 => (intro W hSW; go_simp; try with_reducible rfl)
            (try simp only [Act.put, List.setIfInBounds_toArray, List.set_cons_zero, List.set_cons_succ])
            refine' RT.takeV (i := 1) (v := _) rfl (by kernel_rfl) (by kernel_rfl) (by kernel_rfl) (by decide) (fun _ _ _ h => h) (by rfl) ?hk2 ?_
            case hk2 => (intro W hSW; have x1 := EQ.out; go_simp; try with_reducible rfl)
            (try simp only [Act.put, List.setIfInBounds_toArray, List.set_cons_zero, List.set_cons_succ])
            refine' RT.takeV (i := 2) (v := _) rfl (by kernel_rfl) (by kernel_rfl) (by kernel_rfl) (by decide) (fun _ _ _ h => h) (by rfl) ?hk3 ?_
            case hk3 => (intro W hSW; go_simp; try with_reducible rfl)
            (try simp only [Act.put, List.setIfInBounds_toArray, List.set_cons_zero, List.set_cons_succ])
            refine' RT.takeV (i := 3) (v := _) rfl (by kernel_rfl) (by kernel_rfl) (by kernel_rfl) (by decide) (fun _ _ _ h => h) (by rfl) ?hk4 ?_
            case hk4 => (intro W hSW; go_simp; try with_reducible rfl)
            (try simp only [Act.put, List.setIfInBounds_toArray, List.set_cons_zero, List.set_cons_succ])
            refine' RT.takeV (i := 4) (v := _) rfl (by kernel_rfl) (by kernel_rfl) (by kernel_rfl) (by decide) (fun _ _ _ h => h) (by rfl) ?hk5 ?_
            case hk5 => (intro W hSW; have x1 := (HR.out.below hSW HR.out.lt).cell q HLM.out; rw [HN1.out] at x1; have x2 := hq0; go_simp; try with_reducible rfl)
            (try simp only [Act.put, List.setIfInBounds_toArray, List.set_cons_zero, List.set_cons_succ])
            refine' RT.takeV (i := 5) (v := _) rfl (by kernel_rfl) (by kernel_rfl) (by kernel_rfl) (by decide) (fun _ _ _ h => h) (by rfl) ?hk6 ?_
            case hk6 => (intro W hSW; go_simp; try with_reducible rfl)
            (try simp only [Act.put, List.setIfInBounds_toArray, List.set_cons_zero, List.set_cons_succ])
            refine' RT.takeV (i := 6) (v := _) rfl (by kernel_rfl) (by kernel_rfl) (by kernel_rfl) (by decide) (fun _ _ _ h => h) (by rfl) ?hk7 ?_
            case hk7 => (intro W hSW; go_simp; try with_reducible rfl)
            (try simp only [Act.put, List.setIfInBounds_toArray, List.set_cons_zero, List.set_cons_succ])
            refine' RT.takeV (i := 7) (v := _) rfl (by kernel_rfl) (by kernel_rfl) (by kernel_rfl) (by decide) (fun _ _ _ h => h) (by rfl) ?hk8 ?_
            case hk8 => (intro W hSW; have x1 := EB.out; have x4 : (k : Int) < 32 := (by omega); have x2 := hk32; have x3 := hk0; go_simp; try with_reducible rfl)
            (try simp only [Act.put, List.setIfInBounds_toArray, List.set_cons_zero, List.set_cons_succ])
            refine' RT.takeV (i := 8) (v := _) rfl (by kernel_rfl) (by kernel_rfl) (by kernel_rfl) (by decide) (fun _ _ _ h => h) (by rfl) ?hk9 ?_
            case hk9 => (intro W hSW; go_simp; try with_reducible rfl)
            (try simp only [Act.put, List.setIfInBounds_toArray, List.set_cons_zero, List.set_cons_succ])
            refine' RT.takeV (i := 9) (v := _) rfl (by kernel_rfl) (by kernel_rfl) (by kernel_rfl) (by decide) (fun _ _ _ h => h) (by rfl) ?hk10 ?_
            case hk10 => (intro W hSW; have x1 := ESR.out; have x2 := hj0; go_simp; try with_reducible rfl)
            (try simp only [Act.put, List.setIfInBounds_toArray, List.set_cons_zero, List.set_cons_succ])
            refine' RT.takeV (i := 10) (v := _) rfl (by kernel_rfl) (by kernel_rfl) (by kernel_rfl) (by decide) (fun _ _ _ h => h) (by rfl) ?hk11 ?_
            case hk11 => (intro W hSW; have x1 := EAN.out; go_simp; try with_reducible rfl)
            (try simp only [Act.put, List.setIfInBounds_toArray, List.set_cons_zero, List.set_cons_succ])
            refine' RT.takeV (i := 11) (v := _) rfl (by kernel_rfl) (by kernel_rfl) (by kernel_rfl) (by decide) (fun _ _ _ h => h) (by rfl) ?hk12 ?_
            case hk12 => (intro W hSW; have x1 := EC.out; go_simp; try with_reducible rfl)
            (try simp only [Act.put, List.setIfInBounds_toArray, List.set_cons_zero, List.set_cons_succ])
            refine' RT.takeV (i := 12) (v := _) rfl (by kernel_rfl) (by kernel_rfl) (by kernel_rfl) (by decide) (fun _ _ _ h => h) (by rfl) ?hk13 ?_
            case hk13 => (intro W hSW; go_simp; try with_reducible rfl)
            (try simp only [Act.put, List.setIfInBounds_toArray, List.set_cons_zero, List.set_cons_succ])
            refine' RT.takeV (i := 13) (v := _) rfl (by kernel_rfl) (by kernel_rfl) (by kernel_rfl) (by decide) (fun _ _ _ h => h) (by rfl) ?hk14 ?_
            case hk14 => (intro W hSW; have x1 := ER.out; go_simp; try with_reducible rfl)
            (try simp only [Act.put, List.setIfInBounds_toArray, List.set_cons_zero, List.set_cons_succ])
            refine' RT.takeV (i := 14) (v := _) rfl (by kernel_rfl) (by kernel_rfl) (by kernel_rfl) (by decide) (fun _ _ _ h => h) (by rfl) ?hk15 ?_
            case hk15 => (intro W hSW; have x1 := ESL.out; have x2 := hr0; have x3 := hr64; go_simp; try with_reducible rfl)
            (try simp only [Act.put, List.setIfInBounds_toArray, List.set_cons_zero, List.set_cons_succ])
            refine' RT.takeV (i := 15) (v := _) rfl (by kernel_rfl) (by kernel_rfl) (by kernel_rfl) (by decide) (fun _ _ _ h => h) (by rfl) ?hk16 ?_
            case hk16 => (intro W hSW; have x1 := EOR.out; go_simp; try with_reducible rfl)
            (try simp only [Act.put, List.setIfInBounds_toArray, List.set_cons_zero, List.set_cons_succ])
            refine' RT.takeV (i := 16) (v := _) rfl (by kernel_rfl) (by kernel_rfl) (by kernel_rfl) (by decide) (fun _ _ _ h => h) (by rfl) ?hk17 ?_
            case hk17 => (intro W hSW; go_simp; try with_reducible rfl)
            (try simp only [Act.put, List.setIfInBounds_toArray, List.set_cons_zero, List.set_cons_succ])
            refine' RT.takeV (i := 17) (v := _) rfl (by kernel_rfl) (by kernel_rfl) (by kernel_rfl) (by decide) (fun _ _ _ h => h) (by rfl) ?hk18 ?_
            case hk18 => (intro W hSW; have x2 := hq0; have x3 := hqz; go_simp; try with_reducible rfl)
            (try simp only [Act.put, List.setIfInBounds_toArray, List.set_cons_zero, List.set_cons_succ])
            refine RT.tail (by kernel_rfl) rfl rfl ?_
            intro wd hlwd hswd
            have hlx : Below wr.heap.size wr wd := (Below.drew (Below.refl _ _)).trans hlwd
            have HRd := Lib.hid (HR.out.below hlx HR.out.lt)
            have HZd := Lib.hid (HZ.out.below hlx HZ.out.lt)
            have HBd := Lib.hid (HB.out.trans (hlx.mono (HB.out.size_le HXB.out)))
            clear hlwd hswd hlx
            refine store_cell rfl 50 _ _ rfl (b := ab) (j := q) (v := n1 ||| g) rfl rfl Tryz.underlying50 (by kernel_rfl) HRd.out HLM.out ?_
            intro V hV hgV
            have HBIT := Lib.hid (show N / 2 ^ m % 2 = d from by rw [← HNN.out, ← hm, leN_bit _ k j (by rw [HT.out]; exact hk5) hj8, ← hd2, ← hc, ← hb]; rfl)
            have hst := spl_step N m hm255
            rw [HBIT.out, hr, hq, hn1, hg] at hst
            have HRV := Lib.hid (show Row V ab 53 (spl (N % 2 ^ (m + 1))).l from by rw [hst]; exact hV)
            have HZV := Lib.hid (blk_other HZd.out hgV HNE.out.1)
            have HBV := Lib.hid (HBd.out.grown hgV (HBd.out.size_le HXB.out) (fun j e => by cases e; exact HNE.out.2))
            clear hst hV hgV
            go_wp2_with fail
            go_roundw
            case rel =>
              have REL := Lib.hid (show ∃ j' : Nat, j' ≤ 8 ∧ Value.int .i64 ((j : Int) + 1) = .int .i64 j' ∧ Row V ab 53 (spl (N % 2 ^ (min (8 * k + j') 255))).l ∧ Rg.Blk V rb 53 Z5 ∧ Below rb w V from ⟨j + 1, hj8, rfl, by rw [show min (8 * k + (j + 1)) 255 = m + 1 by omega]; exact HRV.out, HZV.out, HBV.out⟩)
              first
                | exact REL.out
                | ((repeat apply Exists.intro); refine ⟨?_, rfl⟩; exact REL.out)
            case measure => (first | (simp [intOf]; done) | (simp [intOf]; omega))
          · have hdm : decide ((m : Int) < 255) = false := by simp; omega
            go_wp2
            refine ⟨⟨j + 1, hj8, rfl, ?_, HZ.out, HB.out⟩, by simp [intOf]; omega⟩
            rw [show min (8 * k + (j + 1)) 255 = min (8 * k + j) 255 by omega]; exact HR.out
        · obtain rfl : j = 8 := by omega
          go_wp2
          refine ⟨⟨k + 1, hk5, rfl, ?_, HZ.out, HB.out⟩, by simp [intOf]; omega⟩
          rw [show min (8 * (k + 1)) 255 = min (8 * k + 8) 255 by omega]; exact HR.out
    · obtain rfl : k = 32 := by omega
      go_wp2_with (first
        | ((with_reducible refine gate_ ?_); refine Cv.load_cells rfl 53 _ rfl ab 0 rfl (u64s (spl (N % 2 ^ 255)).l) _ (fun j v hv => by rw [Nat.zero_add]; exact Rg.Blk.cell (row_blk HR.out) j hv) Tryz.underlying53 rfl (by rw [u64s_size]; kernel_rfl) ?_; skip)
        | ((with_reducible refine gate_ ?_); refine Cv.store_blk rfl 53 _ _ rfl rb (u64s (spl (N % 2 ^ 255)).l) Z5 53 rfl rfl HZ.out (by rw [u64s_size]; kernel_rfl) (by rw [u64s_size]; first | rfl | rw [u64s_size]) (u64s_one _) ?_; intro V3 hV hgV; have HZZ := Lib.hid hV; have HBZ := Lib.hid (HB.out.grown hgV (HB.out.size_le HXB.out) (fun j e => by cases e; exact Nat.le_refl _)); clear hV hgV))
      refine bodyPost_ret (v := .agg (u64s (spl (N % 2 ^ 255)).l))
        (results_cell_row Tryz.results20 _ _ rb 53 _ (0, 0) _ rfl HZZ.out Tryz.underlying53 rfl (by rw [u64s_size]; kernel_rfl)) rfl ?_
      exact ⟨rfl, HXB.out ▸ HBZ.out⟩
end Go.Proofs.YtfaeigbfnjkojaaGreatDoor.Kx
