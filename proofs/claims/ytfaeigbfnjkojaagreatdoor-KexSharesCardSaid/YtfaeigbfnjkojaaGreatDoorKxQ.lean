/- The field's Bytes. -/
import Derived.Test.YtfaeigbfnjkojaaGreatDoorKxP
set_option linter.unusedVariables false
set_option linter.unusedSimpArgs false
namespace Go.Proofs.YtfaeigbfnjkojaaGreatDoor.Cv
open Go.RowKit Go.Proofs.YtfaeigbfnjkojaaGreatDoor.Cl Go.Proofs.YtfaeigbfnjkojaaGreatDoor.Cv
variable {P : Program}
theorem bytesV_set (l : List UInt8) (j : Nat) (v : UInt8) : (bytesV l).setIfInBounds j (.int .u8 (v.toNat : Int)) = bytesV (l.set j v) := by
  unfold bytesV
  simp [Lib.byteCells, List.map_set]
/-- a byte stored into a block of bytes: the world behind it has a name -/
theorem store_byte {ops : Array Oper} {rest : List Oper} {o : Oper} {a : Act} {w : World} {Q : Exit → Act → World → Prop} (hgd : o.guard = none) (ty : TypeId) (x y : Operand) (ho : o.op = .store ty x y)
    {b j T : Nat} {l : List UInt8} {v : UInt8} (hx : a.eval x = .pointer (some ⟨b, j, none⟩)) (hy : a.eval y = .int .u8 (v.toNat : Int)) (hu : P.underlying ty = some (.int .u8)) (hi : (P.info? ty).map (·.size) = some 1) (hR : Rg.Blk w b T (bytesV l)) (hj : j < l.length)
    (h : ∀ w', Rg.Blk w' b T (bytesV (l.set j v)) → w.grownBy w' (some b) → wpList P ops Q rest (a.put o.dst undef) w') : wpList P ops Q (o :: rest) a w :=
  wpList_plain hgd fun _ hK => by
    have hx' := hx
    have hy' := hy
    have hc := hR.cell j (bytesV_get l j l[j] (List.getElem?_eq_getElem hj))
    have hf := hR.frozen j
    simp [go_sem] at hx' hy'
    unfold Oper.wp execOp
    cases hq : P.info? ty with
    | none => simp [hq] at hi
    | some i =>
    have hs : i.size = 1 := by simpa [hq] using hi
    simp [ho, hx', hy', go_sem, hc, hf, hu, sizeOf, typeInfo, hq, hs]
    have hB : Rg.Blk (w.setCell ⟨b, j, none⟩ (.int .u8 (v.toNat : Int))) b T (bytesV (l.set j v)) := by
      have h2 := hR
      unfold Rg.Blk at *
      rw [heap_setCell_same w b j _ _ _ h2, bytesV_set]
    have := hK _ _ (h _ hB (grown_setCell w b j _))
    simpa [go_sem] using this
end Go.Proofs.YtfaeigbfnjkojaaGreatDoor.Cv
namespace Go.Proofs.YtfaeigbfnjkojaaGreatDoor.Kx
open Go.RowKit Go.Proofs.YtfaeigbfnjkojaaGreatDoor.Cl
theorem zero32 : Cv.bytesV (toLe 32 (0 % 2 ^ 0)) = #[.int .u8 0, .int .u8 0, .int .u8 0, .int .u8 0, .int .u8 0, .int .u8 0, .int .u8 0, .int .u8 0, .int .u8 0, .int .u8 0, .int .u8 0, .int .u8 0, .int .u8 0, .int .u8 0, .int .u8 0, .int .u8 0, .int .u8 0, .int .u8 0, .int .u8 0, .int .u8 0, .int .u8 0, .int .u8 0, .int .u8 0, .int .u8 0, .int .u8 0, .int .u8 0, .int .u8 0, .int .u8 0, .int .u8 0, .int .u8 0, .int .u8 0, .int .u8 0] := by
  unfold Cv.bytesV
  rfl
theorem shl8_lt {d r : Nat} (hd : d ≤ 1) (hr : r < 8) : d * 2 ^ r < 256 := by
  have h1 : 2 ^ r ≤ 2 ^ 7 := Nat.pow_le_pow_right (by decide) (by omega)
  have h2 : d * 2 ^ r ≤ 1 * 2 ^ r := Nat.mul_le_mul_right _ hd
  have h3 : (2 : Nat) ^ 7 < 256 := by decide
  omega
theorem wrap8 (x : Nat) (h : x < 256) : IntKind.u8.wrap (x : Int) = (x : Int) := by simp [IntKind.wrap, IntKind.bits, IntKind.signed]; omega
theorem or8_lt {a b : Nat} (ha : a < 256) (hb : b < 256) : a ||| b < 256 := Nat.or_lt_two_pow (n := 8) ha hb
set_option maxRecDepth 20000 in
set_option maxHeartbeats 2000000 in
theorem Bytes_any (w : World) (x : E) : Calls Tryz.prog 26 #[.agg (u64s x.l)] w fun e w' => e = .returned (.agg (Cv.bytesV (bytesE x))) ∧ Below w.heap.size w w' := by
  obtain ⟨y, hy⟩ : ∃ y, least x = y := ⟨_, rfl⟩
  have HF := Lib.hid (show ∀ j, nth y.l j < W from hy ▸ least_fit x)
  obtain ⟨N, hN⟩ : ∃ N, y.val = N := ⟨_, rfl⟩
  have HNN := Lib.hid (show y = spl N by rw [← hN, spl_val _ HF.out])
  have HLT := Lib.hid (show N < 2 ^ 255 by rw [← hN]; exact val_lt _ HF.out)
  have HLE := Lib.hid (fun W => show Calls Tryz.prog 48 #[.agg (u64s x.l)] W fun e w' => e = .returned (.agg (u64s y.l)) ∧ Below W.heap.size W w' from hy ▸ least_any W x)
  unfold bytesE
  rw [hy, hN]
  clear hN hy
  go_enter Tryz.func26, Tryz.ntmps26
  go_upto_region 1 with ((with_reducible refine gate_ ?_); refine Rg.box_fresh rfl 53 _ rfl (u64s x.l) rfl ?_; intro X hX hbX hnX; have HX := Lib.hid hX; have HBX := Lib.hid hbX; have HNX := Lib.hid hnX; clear hX hbX hnX)
  obtain ⟨xb, hxb⟩ : ∃ xb, w.heap.size = xb := ⟨_, rfl⟩
  obtain ⟨rb, hrb⟩ : ∃ rb, X.heap.size = rb := ⟨_, rfl⟩
  rw [← zero32]
  have HR := Lib.hid (show Row (X.alloc (.cells (Cv.bytesV (toLe 32 (0 % 2 ^ 0))) 22)) xb 53 x.l from (hxb ▸ HX.out).alloc _)
  have HZ := Lib.hid (show Rg.Blk (X.alloc (.cells (Cv.bytesV (toLe 32 (0 % 2 ^ 0))) 22)) rb 22 (Cv.bytesV (toLe 32 (0 % 2 ^ 0))) from Rg.Blk.newAt hrb.symm _ _)
  have HB := Lib.hid (show Below xb w (X.alloc (.cells (Cv.bytesV (toLe 32 (0 % 2 ^ 0))) 22)) from hxb ▸ HBX.out.alloc HBX.out.size _)
  have HNE := Lib.hid (show xb ≠ rb ∧ xb ≤ rb from by have h1 := HX.out.lt; constructor <;> omega)
  have HXB := Lib.hid hxb
  rw [hxb, hrb]
  generalize X.alloc (.cells (Cv.bytesV (toLe 32 (0 % 2 ^ 0))) 22) = Y at *
  clear HX HBX HNX hxb hrb
  go_upto_region 2 with (first
    | ((with_reducible refine gate_ ?_); refine Cv.load_cells rfl 53 _ rfl xb 0 rfl (u64s x.l) _ (fun j v hv => by rw [Nat.zero_add]; exact Rg.Blk.cell (row_blk HR.out) j hv) Tryz.underlying53 rfl (by rw [u64s_size]; kernel_rfl) ?_; skip)
    | (go_at_call 48; refine (HLE.out _).mono ?_; rintro e w9 ⟨rfl, hb9⟩; skip; have HR9 := Lib.hid (HR.out.below hb9 HR.out.lt); have HZ9 := Lib.hid (HZ.out.below hb9 HZ.out.lt); have HB9 := Lib.hid (HB.out.trans (hb9.mono (HB.out.size_le HXB.out))); clear hb9)
    | ((with_reducible refine gate_ ?_); refine Cv.store_blk rfl 53 _ _ rfl xb (u64s y.l) (u64s x.l) 53 rfl rfl HR9.out (by rw [u64s_size]; kernel_rfl) (by rw [u64s_size]; first | rfl | rw [u64s_size]) (u64s_one _) ?_; intro V3 hV hgV; have HRV := Lib.hid (show Row V3 xb 53 y.l from hV); have HZV := Lib.hid (blk_other HZ9.out hgV HNE.out.1); have HBV := Lib.hid (HB9.out.grown hgV (HB9.out.size_le HXB.out) (fun j e => by cases e; exact Nat.le_refl _)); clear hV hgV))
  obtain ⟨ob, hob⟩ : ∃ ob, V3.heap.size = ob := ⟨_, rfl⟩
  go_upto_region 4 with fail
  rw [← zero32, show (0 % 2 ^ 0 : Nat) = N % 2 ^ 0 by rw [Nat.pow_zero, Nat.mod_one, Nat.mod_one]]
  clear HR HZ HB HR9 HZ9 HB9
  have HR := Lib.hid (show Row (V3.alloc (.cells (Cv.bytesV (toLe 32 (N % 2 ^ 0))) 22)) xb 53 y.l from HRV.out.alloc _)
  have HZ := Lib.hid (show Rg.Blk (V3.alloc (.cells (Cv.bytesV (toLe 32 (N % 2 ^ 0))) 22)) rb 22 (Cv.bytesV (toLe 32 (0 % 2 ^ 0))) from HZV.out.alloc _)
  have HO := Lib.hid (show Rg.Blk (V3.alloc (.cells (Cv.bytesV (toLe 32 (N % 2 ^ 0))) 22)) ob 22 (Cv.bytesV (toLe 32 (N % 2 ^ 0))) from Rg.Blk.newAt hob.symm _ _)
  have HB := Lib.hid (show Below xb w (V3.alloc (.cells (Cv.bytesV (toLe 32 (N % 2 ^ 0))) 22)) from HBV.out.alloc (HBV.out.size_le HXB.out) _)
  have HNO := Lib.hid (show ob ≠ xb ∧ ob ≠ rb ∧ xb ≤ ob from by have h1 := HRV.out.lt; have h2 := HZV.out.lt; refine ⟨?_, ?_, ?_⟩ <;> omega)
  try rw [hob]
  generalize V3.alloc (.cells (Cv.bytesV (toLe 32 (N % 2 ^ 0))) 22) = Y2 at *
  clear HRV HZV HBV hob
  go_loopw [7] (fun i wr => ∃ m : Nat, m ≤ 255 ∧ i = .int .i64 m ∧ Rg.Blk wr ob 22 (Cv.bytesV (toLe 32 (N % 2 ^ m))) ∧ Row wr xb 53 y.l ∧ Rg.Blk wr rb 22 (Cv.bytesV (toLe 32 (0 % 2 ^ 0))) ∧ Below xb w wr) (fun i _ => 255 - (intOf i).toNat)
  case atStart => exact ⟨0, Nat.zero_le _, rfl, HO.out, HR.out, HZ.out, HB.out⟩
  case round =>
    obtain ⟨m, hm, rfl, ho, hr, hz, hb⟩ := hrel
    clear HR HZ HB HO
    have HO := Lib.hid ho
    have HR := Lib.hid hr
    have HZ := Lib.hid hz
    have HB := Lib.hid hb
    clear ho hr hz hb
    by_cases hm255 : m < 255
    · have hdm : decide ((m : Int) < 255) = true := by simp; omega
      have hm0 : (0 : Int) ≤ m := by omega
      obtain ⟨q, hq⟩ : ∃ q, m / 51 = q := ⟨_, rfl⟩
      obtain ⟨r, hr⟩ : ∃ r, m % 51 = r := ⟨_, rfl⟩
      obtain ⟨p, hp⟩ : ∃ p, m / 8 = p := ⟨_, rfl⟩
      obtain ⟨s, hs⟩ : ∃ s, m % 8 = s := ⟨_, rfl⟩
      have hq5 : q < 5 := by omega
      have hr51 : r < 51 := by omega
      have hp32 : p < 32 := by omega
      have hs8 : s < 8 := by omega
      have HLM := Lib.hid (show q < y.l.length from hq5)
      have HLP := Lib.hid (show p < (toLe 32 (N % 2 ^ m)).length from by rw [toLe_len]; exact hp32)
      have hq0 : (0 : Int) ≤ (q : Int) := by omega
      have hr0 : (0 : Int) ≤ (r : Int) := by omega
      have hqz : (q : Int) < 5 := by omega
      have hp0 : (0 : Int) ≤ (p : Int) := by omega
      have hs0 : (0 : Int) ≤ (s : Int) := by omega
      have hpz : (p : Int) < 32 := by omega
      obtain ⟨n1, hn1⟩ : ∃ n1, nth y.l q = n1 := ⟨_, rfl⟩
      have hn1W : n1 < M := by rw [← hn1]; exact Nat.lt_trans (HF.out q) W_lt_M
      have HN1 := Lib.hid hn1
      obtain ⟨c, hc⟩ : ∃ c, n1 / 2 ^ r = c := ⟨_, rfl⟩
      have hcM : c < M := by rw [← hc]; exact Nat.lt_of_le_of_lt (Nat.div_le_self _ _) hn1W
      have ESR := Lib.hid (show (n1 : Int) / 2 ^ r = (c : Int) from by rw [← hc]; simp)
      obtain ⟨d, hd2⟩ : ∃ d, c % 2 = d := ⟨_, rfl⟩
      have hd1 : d ≤ 1 := by omega
      have EAN := Lib.hid (show bits .and .u64 (c : Int) 1 = (d : Int) from by rw [← hd2, ← Nat.and_one_is_mod]; exact u64_and_nat c 1 hcM (by decide))
      have EC := Lib.hid (show IntKind.u8.wrap (d : Int) = (d : Int) from wrap8 d (by omega))
      obtain ⟨g, hg⟩ : ∃ g, d * 2 ^ s = g := ⟨_, rfl⟩
      have hg256 : g < 256 := by rw [← hg]; exact shl8_lt hd1 hs8
      have ESL := Lib.hid (show IntKind.u8.wrap ((d : Int) * 2 ^ s) = (g : Int) from by rw [show (d : Int) * 2 ^ s = ((d * 2 ^ s : Nat) : Int) by simp, hg]; exact wrap8 g hg256)
      obtain ⟨o, ho⟩ : ∃ o, (N % 2 ^ m) / 256 ^ p % 256 = o := ⟨_, rfl⟩
      have ho256 : o < 256 := by rw [← ho]; exact Nat.mod_lt _ (by decide)
      have HOC := Lib.hid (show (Cv.bytesV (toLe 32 (N % 2 ^ m)))[p]? = some (.int .u8 (o : Int)) from by rw [Cv.bytesV_get _ p _ (toLe_get 32 _ p hp32), ho]; congr 3; rw [UInt8.toNat_ofNat']; exact Nat.mod_eq_of_lt ho256)
      obtain ⟨vb, hvb⟩ : ∃ v : UInt8, UInt8.ofNat (o ||| g) = v := ⟨_, rfl⟩
      have HTN := Lib.hid (show (vb.toNat : Int) = ((o ||| g : Nat) : Int) from by rw [← hvb, UInt8.toNat_ofNat']; exact congrArg _ (Nat.mod_eq_of_lt (or8_lt ho256 hg256)))
      have EOR := Lib.hid (show bits .or .u8 (o : Int) (g : Int) = (vb.toNat : Int) from by rw [HTN.out]; exact u8_or_nat o g ho256 hg256)
      have hr64 : min r 64 = r := by omega
      have hs64 : min s 8 = s := by omega
      have EQ := Lib.hid (show IntKind.i64.wrap ((m : Int) / 51) = (q : Int) from by rw [show (m : Int) / 51 = (q : Int) by omega]; exact wrapI (by omega))
      have EQ8 := Lib.hid (show IntKind.i64.wrap ((m : Int) / 8) = (p : Int) from by rw [show (m : Int) / 8 = (p : Int) by omega]; exact wrapI (by omega))
      have ER := Lib.hid (show (m : Int).tmod 51 = (r : Int) from by rw [Int.tmod_eq_emod_of_nonneg (by omega)]; omega)
      have ER8 := Lib.hid (show (m : Int).tmod 8 = (s : Int) from by rw [Int.tmod_eq_emod_of_nonneg (by omega)]; omega)
      have HLT2 := Lib.hid (show d = N / 2 ^ m % 2 from by rw [← hd2, ← hc, ← hn1, ← hr, ← hq, HNN.out, spl_nth _ _ (by omega), lim_bit])
      have hst := toLe_step N m (by omega)
      rw [hp, hs, ho, ← HLT2.out, hg, hvb] at hst
      have HST := Lib.hid hst
      clear hst hcM hn1W hvb
      go_upto_region 6 with fail
      refine RT.start (fun W => Below wr.heap.size wr W) 19 1 (by kernel_rfl) (by decide) rfl (by kernel_rfl) (by kernel_rfl) (Below.drew (Below.refl _ _)) ?_
      refine' RT.takeV (i := 0) (v := _) rfl (by kernel_rfl) (by kernel_rfl) (by kernel_rfl) (by decide) (fun _ _ _ h => h) (by rfl) ?hk1 ?_
      case hk1 => (intro W hSW; go_simp; try with_reducible rfl)
      (try simp only [Act.put, List.setIfInBounds_toArray, List.set_cons_zero, List.set_cons_succ])
      refine' RT.takeV (i := 1) (v := _) rfl (by kernel_rfl) (by kernel_rfl) (by kernel_rfl) (by decide) (fun _ _ _ h => h) (by rfl) ?hk2 ?_
      case hk2 => (intro W hSW; have x1 := EQ8.out; go_simp; try with_reducible rfl)
      (try simp only [Act.put, List.setIfInBounds_toArray, List.set_cons_zero, List.set_cons_succ])
      refine' RT.takeV (i := 2) (v := _) rfl (by kernel_rfl) (by kernel_rfl) (by kernel_rfl) (by decide) (fun _ _ _ h => h) (by rfl) ?hk3 ?_
      case hk3 => (intro W hSW; have x2 := hp0; have x3 := hpz; go_simp; try with_reducible rfl)
      (try simp only [Act.put, List.setIfInBounds_toArray, List.set_cons_zero, List.set_cons_succ])
      refine' RT.takeV (i := 3) (v := _) rfl (by kernel_rfl) (by kernel_rfl) (by kernel_rfl) (by decide) (fun _ _ _ h => h) (by rfl) ?hk4 ?_
      case hk4 => (intro W hSW; have x1 := (HO.out.below hSW HO.out.lt).cell p HOC.out; have x2 := hp0; go_simp; try with_reducible rfl)
      (try simp only [Act.put, List.setIfInBounds_toArray, List.set_cons_zero, List.set_cons_succ])
      refine' RT.takeV (i := 4) (v := _) rfl (by kernel_rfl) (by kernel_rfl) (by kernel_rfl) (by decide) (fun _ _ _ h => h) (by rfl) ?hk5 ?_
      case hk5 => (intro W hSW; go_simp; try with_reducible rfl)
      (try simp only [Act.put, List.setIfInBounds_toArray, List.set_cons_zero, List.set_cons_succ])
      refine' RT.takeV (i := 5) (v := _) rfl (by kernel_rfl) (by kernel_rfl) (by kernel_rfl) (by decide) (fun _ _ _ h => h) (by rfl) ?hk6 ?_
      case hk6 => (intro W hSW; have x1 := EQ.out; go_simp; try with_reducible rfl)
      (try simp only [Act.put, List.setIfInBounds_toArray, List.set_cons_zero, List.set_cons_succ])
      refine' RT.takeV (i := 6) (v := _) rfl (by kernel_rfl) (by kernel_rfl) (by kernel_rfl) (by decide) (fun _ _ _ h => h) (by rfl) ?hk7 ?_
      case hk7 => (intro W hSW; go_simp; try with_reducible rfl)
      (try simp only [Act.put, List.setIfInBounds_toArray, List.set_cons_zero, List.set_cons_succ])
      refine' RT.takeV (i := 7) (v := _) rfl (by kernel_rfl) (by kernel_rfl) (by kernel_rfl) (by decide) (fun _ _ _ h => h) (by rfl) ?hk8 ?_
      case hk8 => (intro W hSW; have x2 := hq0; have x3 := hqz; go_simp; try with_reducible rfl)
      (try simp only [Act.put, List.setIfInBounds_toArray, List.set_cons_zero, List.set_cons_succ])
      refine' RT.takeV (i := 8) (v := _) rfl (by kernel_rfl) (by kernel_rfl) (by kernel_rfl) (by decide) (fun _ _ _ h => h) (by rfl) ?hk9 ?_
      case hk9 => (intro W hSW; have x1 := (HR.out.below hSW HR.out.lt).cell q HLM.out; rw [HN1.out] at x1; have x2 := hq0; go_simp; try with_reducible rfl)
      (try simp only [Act.put, List.setIfInBounds_toArray, List.set_cons_zero, List.set_cons_succ])
      refine' RT.takeV (i := 9) (v := _) rfl (by kernel_rfl) (by kernel_rfl) (by kernel_rfl) (by decide) (fun _ _ _ h => h) (by rfl) ?hk10 ?_
      case hk10 => (intro W hSW; go_simp; try with_reducible rfl)
      (try simp only [Act.put, List.setIfInBounds_toArray, List.set_cons_zero, List.set_cons_succ])
      refine' RT.takeV (i := 10) (v := _) rfl (by kernel_rfl) (by kernel_rfl) (by kernel_rfl) (by decide) (fun _ _ _ h => h) (by rfl) ?hk11 ?_
      case hk11 => (intro W hSW; have x1 := ER.out; go_simp; try with_reducible rfl)
      (try simp only [Act.put, List.setIfInBounds_toArray, List.set_cons_zero, List.set_cons_succ])
      refine' RT.takeV (i := 11) (v := _) rfl (by kernel_rfl) (by kernel_rfl) (by kernel_rfl) (by decide) (fun _ _ _ h => h) (by rfl) ?hk12 ?_
      case hk12 => (intro W hSW; have x1 := ESR.out; have x2 := hr0; have x3 := hr64; go_simp; try with_reducible rfl)
      (try simp only [Act.put, List.setIfInBounds_toArray, List.set_cons_zero, List.set_cons_succ])
      refine' RT.takeV (i := 12) (v := _) rfl (by kernel_rfl) (by kernel_rfl) (by kernel_rfl) (by decide) (fun _ _ _ h => h) (by rfl) ?hk13 ?_
      case hk13 => (intro W hSW; have x1 := EAN.out; go_simp; try with_reducible rfl)
      (try simp only [Act.put, List.setIfInBounds_toArray, List.set_cons_zero, List.set_cons_succ])
      refine' RT.takeV (i := 13) (v := _) rfl (by kernel_rfl) (by kernel_rfl) (by kernel_rfl) (by decide) (fun _ _ _ h => h) (by rfl) ?hk14 ?_
      case hk14 => (intro W hSW; have x1 := EC.out; go_simp; try with_reducible rfl)
      (try simp only [Act.put, List.setIfInBounds_toArray, List.set_cons_zero, List.set_cons_succ])
      refine' RT.takeV (i := 14) (v := _) rfl (by kernel_rfl) (by kernel_rfl) (by kernel_rfl) (by decide) (fun _ _ _ h => h) (by rfl) ?hk15 ?_
      case hk15 => (intro W hSW; go_simp; try with_reducible rfl)
      (try simp only [Act.put, List.setIfInBounds_toArray, List.set_cons_zero, List.set_cons_succ])
      refine' RT.takeV (i := 15) (v := _) rfl (by kernel_rfl) (by kernel_rfl) (by kernel_rfl) (by decide) (fun _ _ _ h => h) (by rfl) ?hk16 ?_
      case hk16 => (intro W hSW; have x1 := ER8.out; go_simp; try with_reducible rfl)
      (try simp only [Act.put, List.setIfInBounds_toArray, List.set_cons_zero, List.set_cons_succ])
      refine' RT.takeV (i := 16) (v := _) rfl (by kernel_rfl) (by kernel_rfl) (by kernel_rfl) (by decide) (fun _ _ _ h => h) (by rfl) ?hk17 ?_
      case hk17 => (intro W hSW; have x1 := ESL.out; have x2 := hs0; have x3 := hs64; go_simp; try with_reducible rfl)
      (try simp only [Act.put, List.setIfInBounds_toArray, List.set_cons_zero, List.set_cons_succ])
      refine' RT.takeV (i := 17) (v := _) rfl (by kernel_rfl) (by kernel_rfl) (by kernel_rfl) (by decide) (fun _ _ _ h => h) (by rfl) ?hk18 ?_
      case hk18 => (intro W hSW; have x1 := EOR.out; go_simp; try with_reducible rfl)
      (try simp only [Act.put, List.setIfInBounds_toArray, List.set_cons_zero, List.set_cons_succ])
      refine' RT.takeV (i := 18) (v := _) rfl (by kernel_rfl) (by kernel_rfl) (by kernel_rfl) (by decide) (fun _ _ _ h => h) (by rfl) ?hk19 ?_
      case hk19 => (intro W hSW; have x2 := hp0; have x3 := hpz; go_simp; try with_reducible rfl)
      (try simp only [Act.put, List.setIfInBounds_toArray, List.set_cons_zero, List.set_cons_succ])
      refine RT.tail (by kernel_rfl) rfl rfl ?_
      intro wd hlwd hswd
      have hlx : Below wr.heap.size wr wd := (Below.drew (Below.refl _ _)).trans hlwd
      have HOd := Lib.hid (HO.out.below hlx HO.out.lt)
      have HRd := Lib.hid (HR.out.below hlx HR.out.lt)
      have HZd := Lib.hid (HZ.out.below hlx HZ.out.lt)
      have HBd := Lib.hid (HB.out.trans (hlx.mono (HB.out.size_le HXB.out)))
      clear hlwd hswd hlx
      refine Cv.store_byte rfl 5 _ _ rfl (b := ob) (j := p) (v := vb) rfl rfl Tryz.underlying5 (by kernel_rfl) HOd.out HLP.out ?_
      intro V hV hgV
      rw [← HST.out] at hV
      have HOV := Lib.hid hV
      have HRV := Lib.hid (row_other HRd.out hgV HNO.out.1)
      have HZV := Lib.hid (blk_other HZd.out hgV HNO.out.2.1)
      have HBV := Lib.hid (HBd.out.grown hgV (HBd.out.size_le HXB.out) (fun j e => by cases e; exact HNO.out.2.2))
      clear hV hgV
      go_wp2_with fail
      go_roundw
      case rel =>
        have REL := Lib.hid (show ∃ m' : Nat, m' ≤ 255 ∧ Value.int .i64 ((m : Int) + 1) = .int .i64 m' ∧ Rg.Blk V ob 22 (Cv.bytesV (toLe 32 (N % 2 ^ m'))) ∧ Row V xb 53 y.l ∧ Rg.Blk V rb 22 (Cv.bytesV (toLe 32 (0 % 2 ^ 0))) ∧ Below xb w V from ⟨m + 1, hm255, rfl, HOV.out, HRV.out, HZV.out, HBV.out⟩)
        first
          | exact REL.out
          | ((repeat apply Exists.intro); refine ⟨?_, rfl⟩; exact REL.out)
      case measure => (first | (simp [intOf]; done) | (simp [intOf]; omega))
    · obtain rfl : m = 255 := by omega
      have HE := Lib.hid (show Rg.Blk wr ob 22 (Cv.bytesV (toLe 32 N)) from by have := HO.out; rwa [Nat.mod_eq_of_lt HLT.out] at this)
      have H32 := Lib.hid (show ∀ n, (Cv.bytesV (toLe 32 n)).size = 32 from fun n => by rw [Cv.bytesV_size, toLe_len])
      go_wp2_with (first
        | ((with_reducible refine gate_ ?_); refine Cv.load_cells rfl 22 _ rfl ob 0 rfl (Cv.bytesV (toLe 32 N)) _ (fun j v hv => by rw [Nat.zero_add]; exact HE.out.cell j hv) Tryz.underlying22 rfl (by rw [H32.out]; kernel_rfl) ?_; skip)
        | ((with_reducible refine gate_ ?_); refine Cv.store_blk rfl 22 _ _ rfl rb (Cv.bytesV (toLe 32 N)) (Cv.bytesV (toLe 32 (0 % 2 ^ 0))) 22 rfl rfl HZ.out (by rw [H32.out]; kernel_rfl) (by rw [H32.out, H32.out]) (Cv.bytesV_one _) ?_; intro V3 hV hgV; have HZZ := Lib.hid hV; have HBZ := Lib.hid (HB.out.grown hgV (HB.out.size_le HXB.out) (fun j e => by cases e; exact HNE.out.2)); clear hV hgV))
      refine bodyPost_ret (v := .agg (Cv.bytesV (toLe 32 N)))
        (results_cell_row Tryz.results26 _ _ rb 22 _ (0, 0) _ rfl HZZ.out Tryz.underlying22 rfl (by rw [H32.out]; kernel_rfl)) rfl ?_
      exact ⟨rfl, HXB.out ▸ HBZ.out⟩
end Go.Proofs.YtfaeigbfnjkojaaGreatDoor.Kx
