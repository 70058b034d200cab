/- The field's Mul. The field's Small, Choose, Square. The field's least. The field's Zero. The field's power, as Invert asks it. The field's Invert. -/
import Derived.Test.YtfaeigbfnjkojaaGreatDoorKfA
import Derived.Test.YtfaeigbfnjkojaaGreatDoorIdx
import Derived.DeepKeys
set_option linter.unusedVariables false
set_option linter.unusedSimpArgs false
namespace Go.Proofs.YtfaeigbfnjkojaaGreatDoor.Kx
open Go.RowKit Go.Proofs.YtfaeigbfnjkojaaGreatDoor.Cl
def Z10 : Array Value := #[.int .u64 0, .int .u64 0, .int .u64 0, .int .u64 0, .int .u64 0, .int .u64 0, .int .u64 0, .int .u64 0, .int .u64 0, .int .u64 0]
theorem u64s_at (x : E) {i : Nat} (h : i < 5) : (u64s x.l)[i]? = some (.int .u64 (nth x.l i : Nat)) := by
  match i, h with
  | 0, _ => rfl
  | 1, _ => rfl
  | 2, _ => rfl
  | 3, _ => rfl
  | 4, _ => rfl
theorem _root_.Go.Proofs.YtfaeigbfnjkojaaGreatDoor.Cl.Row.alloc {w : World} {b T : Nat} {xs : List Nat} (h : Row w b T xs) (o : Obj) : Row (w.alloc o) b T xs := Rg.Blk.alloc (row_blk h) o
theorem row_cell_of {w : World} {b T j v : Nat} {l : List Nat} (h : Row w b T l) (hj : j < l.length) (hv : nth l j = v) : w.cell? ⟨b, j, none⟩ = some (.int .u64 (v : Nat)) := hv ▸ h.cell j hj
theorem it_rd_succ (T : List Nat) (k : Nat) (s : Nat × List Nat) : it (rd T) (k + 1) s = ((nth T k + (it (rd T) k s).1) % M2 / W % M, (it (rd T) k s).2.set k ((nth T k + (it (rd T) k s).1) % M2 % W)) := rfl
theorem it_rd_lt (T : List Nat) : ∀ (n j : Nat), nth (it (rd T) n (0, [0, 0, 0, 0, 0])).2 j < W
  | 0, j => by
    match j with
    | 0 => exact (show (0 : Nat) < W by decide)
    | 1 => exact (show (0 : Nat) < W by decide)
    | 2 => exact (show (0 : Nat) < W by decide)
    | 3 => exact (show (0 : Nat) < W by decide)
    | 4 => exact (show (0 : Nat) < W by decide)
    | j + 5 => simp [it, nth, W]
  | n + 1, j => by
    rw [it_rd_succ]
    by_cases h : n = j
    · subst h
      by_cases hl : n < (it (rd T) n (0, [0, 0, 0, 0, 0])).2.length
      · rw [nth_set hl]; exact mod_lt_W _
      · rw [List.set_eq_of_length_le (by omega)]; exact it_rd_lt T n n
    · rw [nth_set_ne h]; exact it_rd_lt T n j
theorem tot_lt {q o : Nat} (hq : q < M) (ho : o < M) : (q * 19 + o) % M2 = q * 19 + o := by unfold M M2 at *; omega
theorem div_lt {q : Nat} (hq : q < M) : q * 19 / M < M := by unfold M at *; omega
theorem set01 {l : List Nat} (h : l.length = 5) (a b : Nat) : (l.set 0 a).set 1 b = [a, b, nth l 2, nth l 3, nth l 4] := by
  match l, h with
  | [u0, u1, u2, u3, u4], _ => rfl
theorem sumadd2 (w : World) (b T j : Nat) (ts : List Nat) (hj : j < ts.length) (a c : Nat) (ha : a < M) (hc : c < M) (hB : Row w b T (fl ts)) : Calls Tryz.prog 43 #[.pointer (some ⟨b, j * 2, none⟩), .int .u64 a, .int .u64 c] w fun e w' => (∃ v, e = .returned v) ∧ Row w' b T (fl (ts.set j (nth ts j + a * c))) ∧ w.grownBy w' (some b) := by
  rw [Nat.mul_comm j 2]
  exact sumadd_any w b T j ts hj a c ha hc hB
theorem it_mulT_succ (xs ys : List Nat) (i k : Nat) (ts : List Nat) : it (mulT xs ys i) (k + 1) ts = if i + k < 5 then (it (mulT xs ys i) k ts).set (i + k) (nth (it (mulT xs ys i) k ts) (i + k) + nth xs i * nth ys k) else (it (mulT xs ys i) k ts).set (i + k - 5) (nth (it (mulT xs ys i) k ts) (i + k - 5) + nth xs i * 19 % M * nth ys k) := rfl
set_option maxRecDepth 20000 in
set_option maxHeartbeats 2000000 in
theorem Mul_any (w : World) (x y : E) (hx : x.ok) (hy : y.ok) : Calls Tryz.prog 24 #[.agg (u64s x.l), .agg (u64s y.l)] w fun e w' => e = .returned (.agg (u64s (mul x y).l)) ∧ Below w.heap.size w w' := by
  have HOX := Lib.hid hx
  have HOY := Lib.hid hy
  clear hx hy
  go_enter Tryz.func24, Tryz.ntmps24
  have tok1 := True.intro
  go_upto_region 1 with (first
    | (have _t := tok1; (with_reducible refine gate_ ?_); refine Rg.box_fresh rfl 53 _ rfl (u64s x.l) rfl ?_; intro X hX hbX hnX; have HX := Lib.hid hX; have HBX := Lib.hid hbX; have HNX := Lib.hid hnX; clear hX hbX hnX; have tok2 := True.intro; clear _t tok1)
    | (have _t := tok2; (with_reducible refine gate_ ?_); refine Rg.box_fresh rfl 53 _ rfl (u64s y.l) rfl ?_; intro X2 hX hbX hnX; have HY2 := Lib.hid hX; have HBY := Lib.hid hbX; have HNY := Lib.hid hnX; clear hX hbX hnX; clear _t tok2))
  obtain ⟨xb, hxb⟩ : ∃ xb, w.heap.size = xb := ⟨_, rfl⟩
  obtain ⟨yb, hyb⟩ : ∃ yb, X.heap.size = yb := ⟨_, rfl⟩
  obtain ⟨rb, hrb⟩ : ∃ rb, X2.heap.size = rb := ⟨_, rfl⟩
  have HR := Lib.hid (show Row (X2.alloc (.cells Z5 53)) xb 53 x.l from ((hxb ▸ HX.out).below HBY.out (hxb ▸ HX.out.lt)).alloc _)
  have HY := Lib.hid (show Row (X2.alloc (.cells Z5 53)) yb 53 y.l from (hyb ▸ HY2.out).alloc _)
  have HZ := Lib.hid (show Rg.Blk (X2.alloc (.cells Z5 53)) rb 53 Z5 from Rg.Blk.newAt hrb.symm _ _)
  have HB := Lib.hid (show Below xb w (X2.alloc (.cells Z5 53)) from hxb ▸ (HBX.out.trans (HBY.out.mono HBX.out.size)).alloc (Nat.le_trans HBX.out.size HBY.out.size) _)
  have HNE := Lib.hid (show xb ≠ yb ∧ xb ≠ rb ∧ xb ≤ rb from by have h1 := HNX.out; have h2 := HNY.out; refine ⟨?_, ?_, ?_⟩ <;> omega)
  have HN2 := Lib.hid (show yb ≠ rb ∧ xb ≤ yb from by have h1 := HNX.out; have h2 := HNY.out; refine ⟨?_, ?_⟩ <;> omega)
  have HXB := Lib.hid hxb
  rw [hxb, hyb, hrb, show (#[.int .u64 0, .int .u64 0, .int .u64 0, .int .u64 0, .int .u64 0] : Array Value) = Z5 from rfl]
  generalize X2.alloc (.cells Z5 53) = Z at *
  clear HX HBX HY2 HBY HNX HNY hxb hyb hrb
  obtain ⟨sb, hsb⟩ : ∃ sb, Z.heap.size = sb := ⟨_, rfl⟩
  have HXS := Lib.hid (show xb < sb ∧ yb < sb ∧ rb < sb from by rw [← hsb]; exact ⟨HR.out.lt, HY.out.lt, HZ.out.lt⟩)
  go_upto_region 2 with fail
  have HS := Lib.hid (show Row (Z.alloc (.cells Z10 87)) sb 87 (fl [0, 0, 0, 0, 0]) from Rg.Blk.newAt hsb.symm _ _)
  have HRs := Lib.hid (show Row (Z.alloc (.cells Z10 87)) xb 53 x.l from HR.out.alloc _)
  have HYs := Lib.hid (show Row (Z.alloc (.cells Z10 87)) yb 53 y.l from HY.out.alloc _)
  have HZs := Lib.hid (show Rg.Blk (Z.alloc (.cells Z10 87)) rb 53 Z5 from HZ.out.alloc _)
  have HBs := Lib.hid (show Below xb w (Z.alloc (.cells Z10 87)) from HB.out.alloc (HB.out.size_le HXB.out) _)
  rw [show (#[.int .u64 0, .int .u64 0, .int .u64 0, .int .u64 0, .int .u64 0, .int .u64 0, .int .u64 0, .int .u64 0, .int .u64 0, .int .u64 0] : Array Value) = Z10 from rfl]
  clear HR HY HZ HB
  generalize Z.alloc (.cells Z10 87) = Y at *
  clear hsb
  go_upto_region 3 with ((with_reducible refine gate_ ?_); refine Cv.load_cells rfl 51 _ rfl xb 0 rfl (u64s x.l) _ (fun j v hv => by rw [Nat.zero_add]; exact Rg.Blk.cell (row_blk HRs.out) j hv) Tryz.underlying51 rfl (by rw [u64s_size]; kernel_rfl) ?_; skip)
  clear HRs
  go_loopw [19] (fun i wr => ∃ k : Nat, k ≤ 5 ∧ i = .int .i64 k ∧ Row wr sb 87 (fl (it (mulR x.l y.l) k [0, 0, 0, 0, 0])) ∧ Row wr yb 53 y.l ∧ Rg.Blk wr rb 53 Z5 ∧ Below xb w wr) (fun i _ => 5 - (intOf i).toNat)
  case atStart => exact ⟨0, Nat.zero_le _, rfl, HS.out, HYs.out, HZs.out, HBs.out⟩
  case round =>
    obtain ⟨i, hi, rfl, hs, hy, hz, hb⟩ := hrel
    clear HS HYs HZs HBs
    have HS := Lib.hid hs
    have HY := Lib.hid hy
    have HZ := Lib.hid hz
    have HB := Lib.hid hb
    clear hs hy hz hb
    by_cases hi5 : i < 5
    · have hd : decide (i < 5) = true := by simp; exact hi5
      have hii : (i : Int) < 5 := by omega
      have hi0 : (0 : Int) ≤ i := by omega
      obtain ⟨n1, hn1⟩ : ∃ n1, nth x.l i = n1 := ⟨_, rfl⟩
      have HN1 := Lib.hid hn1
      have HL1 := Lib.hid (show n1 < M from hn1 ▸ HOX.out i)
      have HN5 := Lib.hid (show sb ≠ yb ∧ sb ≠ rb ∧ xb ≤ sb from by have h := HXS.out; refine ⟨?_, ?_, ?_⟩ <;> omega)
      have hx1 := index_words (P := Tryz.prog) 51 50 5 x.l i Tryz.underlying51 Tryz.underlying50 (by kernel_rfl) rfl hi5 wr
      rw [hn1] at hx1
      obtain ⟨Ti, hTi⟩ : ∃ Ti, it (mulR x.l y.l) i [0, 0, 0, 0, 0] = Ti := ⟨_, rfl⟩
      have HTI := Lib.hid hTi
      have HTL := Lib.hid (show Ti.length = 5 by rw [← hTi, it_mulR_len]; rfl)
      rw [hTi] at HS
      clear hn1 hTi
      go_upto_region 6 with ((with_reducible refine gate_ ?_); refine Cv.load_cells rfl 51 _ rfl yb 0 rfl (u64s y.l) _ (fun j v hv => by rw [Nat.zero_add]; exact Rg.Blk.cell (row_blk HY.out) j hv) Tryz.underlying51 rfl (by rw [u64s_size]; kernel_rfl) ?_; skip)
      clear hx1
      go_loopw [25] (fun c wr => ∃ k : Nat, k ≤ 5 ∧ c = .int .i64 k ∧ Row wr sb 87 (fl (it (mulT x.l y.l i) k Ti)) ∧ Row wr yb 53 y.l ∧ Rg.Blk wr rb 53 Z5 ∧ Below xb w wr) (fun c _ => 5 - (intOf c).toNat)
      case atStart => exact ⟨0, Nat.zero_le _, rfl, HS.out, HY.out, HZ.out, HB.out⟩
      case round =>
        obtain ⟨k, hk, rfl, hs, hy, hz, hb⟩ := hrel
        clear HS HY HZ HB
        have HS := Lib.hid hs
        have HY := Lib.hid hy
        have HZ := Lib.hid hz
        have HB := Lib.hid hb
        clear hs hy hz hb
        by_cases hk5 : k < 5
        · have hdk : decide (k < 5) = true := by simp; exact hk5
          have hki : (k : Int) < 5 := by omega
          have hk0 : (0 : Int) ≤ k := by omega
          obtain ⟨n2, hn2⟩ : ∃ n2, nth y.l k = n2 := ⟨_, rfl⟩
          have HN2y := Lib.hid hn2
          have HL2 := Lib.hid (show n2 < M from hn2 ▸ HOY.out k)
          have hy1 := index_words (P := Tryz.prog) 51 50 5 y.l k Tryz.underlying51 Tryz.underlying50 (by kernel_rfl) rfl hk5 wr
          rw [hn2] at hy1
          obtain ⟨Tk, hTk⟩ : ∃ Tk, it (mulT x.l y.l i) k Ti = Tk := ⟨_, rfl⟩
          have hst := it_mulT_succ x.l y.l i k Ti
          rw [hTk, HN1.out, hn2] at hst
          have HST := Lib.hid hst
          have HKL := Lib.hid (show Tk.length = 5 by rw [← hTk, it_mulT_len]; exact HTL.out)
          rw [hTk] at HS
          clear hn2 hTk hst
          by_cases hik : i + k < 5
          · have hdik : decide ((i : Int) + k < 5) = true := by simp; omega
            have hiki : (i : Int) + k < 5 := by omega
            have hik0 : (0 : Int) ≤ (i : Int) + k := by omega
            have HIK := Lib.hid hik
            go_wp2_with (go_at_call 43; refine (sumadd2 _ sb 87 (i + k) Tk (by rw [HKL.out]; omega) n1 n2 HL1.out HL2.out HS.out).mono ?_; rintro e w8 ⟨⟨v8, rfl⟩, hs8, hg8⟩; skip; have HS8 := Lib.hid hs8; have HY8 := Lib.hid (row_other HY.out hg8 HN5.out.1); have HZ8 := Lib.hid (blk_other HZ.out hg8 HN5.out.2.1); have HB8 := Lib.hid (HB.out.grown hg8 (HB.out.size_le HXB.out) (fun j e => by cases e; exact HN5.out.2.2)); clear hs8 hg8)
            go_roundw
            case rel =>
              have REL := Lib.hid (show ∃ k' : Nat, k' ≤ 5 ∧ Value.int .i64 ((k : Int) + 1) = .int .i64 k' ∧ Row w8 sb 87 (fl (it (mulT x.l y.l i) k' Ti)) ∧ Row w8 yb 53 y.l ∧ Rg.Blk w8 rb 53 Z5 ∧ Below xb w w8 from ⟨k + 1, hk5, rfl, by rw [HST.out, if_pos HIK.out]; exact HS8.out, HY8.out, HZ8.out, HB8.out⟩)
              first
                | exact REL.out
                | ((repeat apply Exists.intro); refine ⟨?_, rfl⟩; exact REL.out)
            case measure => (first | (simp [intOf]; done) | (simp [intOf]; omega))
          · have hdik : decide ((i : Int) + k < 5) = false := by simp; omega
            have hiki : ¬ (i : Int) + k < 5 := by omega
            have hik0 : (0 : Int) ≤ (i : Int) + k - 5 := by omega
            have hik1 : (i : Int) + k - 5 < 5 := by omega
            have hikn : ((i : Int) + k - 5).toNat = i + k - 5 := by omega
            have e19 : IntKind.u64.wrap ((n1 : Int) * 19) = ((n1 * 19 % M : Nat) : Int) := wrap_mul n1 19
            have HIK := Lib.hid hik
            go_wp2_with (go_at_call 43; refine (sumadd2 _ sb 87 (i + k - 5) Tk (by rw [HKL.out]; omega) (n1 * 19 % M) n2 (mod_lt_M _) HL2.out HS.out).mono ?_; rintro e w8 ⟨⟨v8, rfl⟩, hs8, hg8⟩; skip; have HS8 := Lib.hid hs8; have HY8 := Lib.hid (row_other HY.out hg8 HN5.out.1); have HZ8 := Lib.hid (blk_other HZ.out hg8 HN5.out.2.1); have HB8 := Lib.hid (HB.out.grown hg8 (HB.out.size_le HXB.out) (fun j e => by cases e; exact HN5.out.2.2)); clear hs8 hg8)
            go_roundw
            case rel =>
              have REL := Lib.hid (show ∃ k' : Nat, k' ≤ 5 ∧ Value.int .i64 ((k : Int) + 1) = .int .i64 k' ∧ Row w8 sb 87 (fl (it (mulT x.l y.l i) k' Ti)) ∧ Row w8 yb 53 y.l ∧ Rg.Blk w8 rb 53 Z5 ∧ Below xb w w8 from ⟨k + 1, hk5, rfl, by rw [HST.out, if_neg HIK.out]; exact HS8.out, HY8.out, HZ8.out, HB8.out⟩)
              first
                | exact REL.out
                | ((repeat apply Exists.intro); refine ⟨?_, rfl⟩; exact REL.out)
            case measure => (first | (simp [intOf]; done) | (simp [intOf]; omega))
        · obtain rfl : k = 5 := by omega
          have hdk : decide ((5 : Nat) < 5) = false := by simp
          have hmr : it (mulT x.l y.l i) 5 Ti = it (mulR x.l y.l) (i + 1) [0, 0, 0, 0, 0] := by rw [← HTI.out]; rfl
          rw [hmr] at HS
          clear hmr
          go_wp2
          go_roundw
          case rel =>
            have REL := Lib.hid (show ∃ k' : Nat, k' ≤ 5 ∧ Value.int .i64 ((i : Int) + 1) = .int .i64 k' ∧ Row wr sb 87 (fl (it (mulR x.l y.l) k' [0, 0, 0, 0, 0])) ∧ Row wr yb 53 y.l ∧ Rg.Blk wr rb 53 Z5 ∧ Below xb w wr from ⟨i + 1, hi5, rfl, HS.out, HY.out, HZ.out, HB.out⟩)
            first
              | exact REL.out
              | ((repeat apply Exists.intro); refine ⟨?_, rfl⟩; exact REL.out)
          case measure => (first | (simp [intOf]; done) | (simp [intOf]; omega))
    · obtain rfl : i = 5 := by omega
      have hd : decide ((5 : Nat) < 5) = false := by simp
      have hTe : it (mulR x.l y.l) 5 [0, 0, 0, 0, 0] = mulS x.l y.l := rfl
      rw [hTe] at HS
      clear hTe
      obtain ⟨T, hT⟩ : ∃ T, mulS x.l y.l = T := ⟨_, rfl⟩
      have HTL := Lib.hid (show T.length = 5 by rw [← hT]; unfold mulS; rw [it_mulR_len]; rfl)
      have HTE := Lib.hid hT
      rw [hT] at HS
      clear hT HY
      have HN6 := Lib.hid (show sb ≠ rb ∧ xb ≤ sb ∧ rb < sb from by have h := HXS.out; refine ⟨?_, ?_, ?_⟩ <;> omega)
      go_upto_region 14 with fail
      obtain ⟨ob, hob⟩ : ∃ ob, wr.heap.size = ob := ⟨_, rfl⟩
      have HO := Lib.hid (show Row (wr.alloc (.cells Z5 53)) ob 53 [0, 0, 0, 0, 0] from Rg.Blk.newAt hob.symm _ _)
      have HSo := Lib.hid (show Row (wr.alloc (.cells Z5 53)) sb 87 (fl T) from HS.out.alloc _)
      have HZo := Lib.hid (show Rg.Blk (wr.alloc (.cells Z5 53)) rb 53 Z5 from HZ.out.alloc _)
      have HBo := Lib.hid (show Below xb w (wr.alloc (.cells Z5 53)) from HB.out.alloc (HB.out.size_le HXB.out) _)
      have HN7 := Lib.hid (show ob ≠ sb ∧ ob ≠ rb ∧ xb ≤ ob ∧ xb ≤ sb ∧ sb ≠ ob ∧ sb ≠ rb ∧ xb ≤ rb from by have h1 := HS.out.lt; have h2 := HZ.out.lt; have h3 := HN6.out; have h4 := HNE.out; refine ⟨?_, ?_, ?_, ?_, ?_, ?_, ?_⟩ <;> omega)
      rw [hob, show (#[.int .u64 0, .int .u64 0, .int .u64 0, .int .u64 0, .int .u64 0] : Array Value) = Z5 from rfl]
      clear HS HZ HB
      generalize wr.alloc (.cells Z5 53) = Y3 at *
      clear hob
      go_upto_region 16 with fail
      go_loopw [11, 51] (fun c i wr => ∃ (k : Nat) (L : List Nat), k ≤ 5 ∧ i = .int .i64 k ∧ c = .int .u64 ((it (rd T) k (0, [0, 0, 0, 0, 0])).1 : Nat) ∧ Row wr ob 53 (it (rd T) k (0, [0, 0, 0, 0, 0])).2 ∧ Row wr sb 87 L ∧ L.length = 10 ∧ (∀ j, k * 2 ≤ j → nth L j = nth (fl T) j) ∧ Rg.Blk wr rb 53 Z5 ∧ Below xb w wr) (fun _ i _ => 5 - (intOf i).toNat)
      case atStart => exact ⟨0, fl T, Nat.zero_le _, rfl, rfl, HO.out, HSo.out, by rw [fl_len, HTL.out], fun j _ => rfl, HZo.out, HBo.out⟩
      case round =>
        obtain ⟨k, L, hk, rfl, rfl, ho, hs, hL, hrest, hz, hb⟩ := hrel
        clear HO HSo HZo HBo
        have HO := Lib.hid ho
        have HS := Lib.hid hs
        have HLL := Lib.hid hL
        have HRE := Lib.hid hrest
        have HZ := Lib.hid hz
        have HB := Lib.hid hb
        have HOL := Lib.hid (show (it (rd T) k (0, [0, 0, 0, 0, 0])).2.length = 5 by rw [it_rd_len]; rfl)
        have HQL := Lib.hid (it_rd_c T k)
        clear ho hs hL hrest hz hb
        by_cases hk5 : k < 5
        · have hdk : decide (k < 5) = true := by simp; exact hk5
          have hki : (k : Int) < 5 := by omega
          have hk0 : (0 : Int) ≤ k := by omega
          have hst := it_rd_succ T k (0, [0, 0, 0, 0, 0])
          obtain ⟨q, hq⟩ : ∃ q, (it (rd T) k (0, [0, 0, 0, 0, 0])).1 = q := ⟨_, rfl⟩
          obtain ⟨R, hR⟩ : ∃ R, (it (rd T) k (0, [0, 0, 0, 0, 0])).2 = R := ⟨_, rfl⟩
          obtain ⟨t, ht⟩ : ∃ t, nth T k = t := ⟨_, rfl⟩
          rw [hq, hR, ht] at hst
          rw [hq] at HQL ⊢
          rw [hR] at HO HOL
          have HLK := Lib.hid (show k * 2 < L.length ∧ k * 2 + 1 < L.length by rw [HLL.out]; omega)
          have hl0 : nth L (k * 2) = t % M := by rw [HRE.out _ (Nat.le_refl _), Nat.mul_comm, fl_lo, ht]
          have hh0 : nth L (k * 2 + 1) = t / M % M := by rw [HRE.out _ (Nat.le_succ _), Nat.mul_comm, fl_hi, ht]
          have hc := two_c t q HQL.out
          have hm := two_m t q
          obtain ⟨l0, el0⟩ : ∃ l0, t % M = l0 := ⟨_, rfl⟩
          obtain ⟨h0, eh0⟩ : ∃ h0, t / M % M = h0 := ⟨_, rfl⟩
          have HL0 := Lib.hid (show l0 < M from el0 ▸ mod_lt_M _)
          rw [el0] at hl0
          rw [eh0] at hh0
          rw [el0, eh0] at hc
          rw [el0] at hm
          obtain ⟨ov, hov⟩ : ∃ ov, (l0 + q) / M = ov := ⟨_, rfl⟩
          obtain ⟨v1, hv1⟩ : ∃ v1, (l0 + q) % M = v1 := ⟨_, rfl⟩
          have HA0 := Lib.hid (fun W => add64_0 l0 q W)
          rw [hov, hv1] at HA0
          rw [hov, hv1] at hc
          rw [hv1] at hm
          obtain ⟨v2, hv2⟩ : ∃ v2, (h0 + ov) % M = v2 := ⟨_, rfl⟩
          have e2 : IntKind.u64.wrap ((h0 : Int) + (ov : Int)) = (v2 : Int) := by rw [wrap_add, hv2]
          rw [hv2] at hc
          have HV := Lib.hid (show v1 < M ∧ v2 < M from ⟨hv1 ▸ mod_lt_M _, hv2 ▸ mod_lt_M _⟩)
          rw [← hc, ← hm] at hst
          have e3 : IntKind.u64.wrap ((v2 : Int) * 8192) = ((v2 * 8192 % M : Nat) : Int) := wrap_shl v2
          obtain ⟨p, hp⟩ : ∃ p, v2 * 8192 % M = p := ⟨_, rfl⟩
          rw [hp] at e3 hst
          have e4 : bits .or .u64 (p : Int) ((v1 : Int) / 2251799813685248) = ((p ||| v1 / W : Nat) : Int) := wrap_or p (v1 / W) (hp ▸ mod_lt_M _) (Nat.lt_of_le_of_lt (Nat.div_le_self _ _) HV.out.1)
          have e5 : bits .and .u64 (v1 : Int) 2251799813685247 = ((v1 % W : Nat) : Int) := and_mask v1 HV.out.1
          have HST := Lib.hid hst
          have c0 := row_cell_of HS.out HLK.out.1 hl0
          have HH0 := Lib.hid hh0
          have HOK := Lib.hid (show k < R.length by rw [HOL.out]; exact hk5)
          clear hst hq hR ht hl0 hh0 hc hm el0 eh0 hov hv1 hv2 hp
          have tok1 := True.intro
          go_upto_region 21 with (first
            | (simp only [HA0.out])
            | (have _t := tok1; (with_reducible refine gate_ ?_); refine store_cell rfl 50 _ _ rfl (b := sb) (j := k * 2) (v := v1) rfl rfl Tryz.underlying50 (by kernel_rfl) HS.out HLK.out.1 ?_; intro V hV hgV; have HS1 := Lib.hid hV; have HO1 := Lib.hid (row_other HO.out hgV HN7.out.2.2.2.2.1); have HZ1 := Lib.hid (blk_other HZ.out hgV HN7.out.2.2.2.2.2.1); have HB1 := Lib.hid (HB.out.grown hgV (HB.out.size_le HXB.out) (fun j e => by cases e; exact HN7.out.2.2.2.1)); have c1 := row_cell_of (j := k * 2 + 1) HS1.out (by rw [List.length_set]; exact HLK.out.2) ((nth_set_ne (by omega)).trans HH0.out); clear hV hgV c0; have tok2 := True.intro; clear _t tok1)
            | (have _t := tok2; (with_reducible refine gate_ ?_); refine store_cell rfl 50 _ _ rfl (b := sb) (j := k * 2 + 1) (v := v2) rfl rfl Tryz.underlying50 (by kernel_rfl) HS1.out (by rw [List.length_set]; exact HLK.out.2) ?_; intro V2 hV hgV; have HS2 := Lib.hid hV; have HO2 := Lib.hid (row_other HO1.out hgV HN7.out.2.2.2.2.1); have HZ2 := Lib.hid (blk_other HZ1.out hgV HN7.out.2.2.2.2.2.1); have HB2 := Lib.hid (HB1.out.grown hgV (HB1.out.size_le HXB.out) (fun j e => by cases e; exact HN7.out.2.2.2.1)); clear hV hgV c1 _t tok2))
          have HLK2 := Lib.hid (show k * 2 < ((L.set (k * 2) v1).set (k * 2 + 1) v2).length ∧ k * 2 + 1 < ((L.set (k * 2) v1).set (k * 2 + 1) v2).length by rw [List.length_set, List.length_set]; exact HLK.out)
          have HNV := Lib.hid (show nth ((L.set (k * 2) v1).set (k * 2 + 1) v2) (k * 2) = v1 ∧ nth ((L.set (k * 2) v1).set (k * 2 + 1) v2) (k * 2 + 1) = v2 from ⟨(nth_set_ne (by omega)).trans (nth_set HLK.out.1 v1), nth_set (by rw [List.length_set]; exact HLK.out.2) v2⟩)
          have HRE2 := Lib.hid (show ((L.set (k * 2) v1).set (k * 2 + 1) v2).length = 10 ∧ ∀ j, (k + 1) * 2 ≤ j → nth ((L.set (k * 2) v1).set (k * 2 + 1) v2) j = nth (fl T) j from ⟨by rw [List.length_set, List.length_set]; exact HLL.out, fun j hj => ((nth_set_ne (by omega)).trans (nth_set_ne (by omega))).trans (HRE.out j (by omega))⟩)
          generalize (L.set (k * 2) v1).set (k * 2 + 1) v2 = L2 at *
          refine RL.start (fun W => Below V2.heap.size V2 W) (by kernel_rfl) (Below.drew (Below.refl _ _)) ?_
          refine' RL.takeV (i := 0) (v := _) rfl (by kernel_rfl) (by kernel_rfl) (by kernel_rfl) (fun _ _ _ h => h) (by rfl) ?hk1 ?_
          case hk1 => (intro W hSW; go_simp; try with_reducible rfl)
          (try simp only [Act.put, List.setIfInBounds_toArray, List.set_cons_zero, List.set_cons_succ])
          refine' RL.takeV (i := 1) (v := _) rfl (by kernel_rfl) (by kernel_rfl) (by kernel_rfl) (fun _ _ _ h => h) (by rfl) ?hk2 ?_
          case hk2 => (intro W hSW; go_simp; try with_reducible rfl)
          (try simp only [Act.put, List.setIfInBounds_toArray, List.set_cons_zero, List.set_cons_succ])
          refine' RL.takeV (i := 2) (v := _) rfl (by kernel_rfl) (by kernel_rfl) (by kernel_rfl) (fun _ _ _ h => h) (by rfl) ?hk3 ?_
          case hk3 => (intro W hSW; go_simp; try with_reducible rfl)
          (try simp only [Act.put, List.setIfInBounds_toArray, List.set_cons_zero, List.set_cons_succ])
          refine' RL.takeV (i := 3) (v := _) rfl (by kernel_rfl) (by kernel_rfl) (by kernel_rfl) (fun _ _ _ h => h) (by rfl) ?hk4 ?_
          case hk4 => (intro W hSW; have k1 := row_cell_of (HS2.out.below hSW HS2.out.lt) HLK2.out.2 HNV.out.2; go_simp; try with_reducible rfl)
          (try simp only [Act.put, List.setIfInBounds_toArray, List.set_cons_zero, List.set_cons_succ])
          refine' RL.takeV (i := 4) (v := _) rfl (by kernel_rfl) (by kernel_rfl) (by kernel_rfl) (fun _ _ _ h => h) (by rfl) ?hk5 ?_
          case hk5 => (intro W hSW; have e3x := e3; go_simp; try with_reducible rfl)
          (try simp only [Act.put, List.setIfInBounds_toArray, List.set_cons_zero, List.set_cons_succ])
          refine' RL.takeV (i := 5) (v := _) rfl (by kernel_rfl) (by kernel_rfl) (by kernel_rfl) (fun _ _ _ h => h) (by rfl) ?hk6 ?_
          case hk6 => (intro W hSW; go_simp; try with_reducible rfl)
          (try simp only [Act.put, List.setIfInBounds_toArray, List.set_cons_zero, List.set_cons_succ])
          refine' RL.takeV (i := 6) (v := _) rfl (by kernel_rfl) (by kernel_rfl) (by kernel_rfl) (fun _ _ _ h => h) (by rfl) ?hk7 ?_
          case hk7 => (intro W hSW; go_simp; try with_reducible rfl)
          (try simp only [Act.put, List.setIfInBounds_toArray, List.set_cons_zero, List.set_cons_succ])
          refine' RL.takeV (i := 7) (v := _) rfl (by kernel_rfl) (by kernel_rfl) (by kernel_rfl) (fun _ _ _ h => h) (by rfl) ?hk8 ?_
          case hk8 => (intro W hSW; go_simp; try with_reducible rfl)
          (try simp only [Act.put, List.setIfInBounds_toArray, List.set_cons_zero, List.set_cons_succ])
          refine' RL.takeV (i := 8) (v := _) rfl (by kernel_rfl) (by kernel_rfl) (by kernel_rfl) (fun _ _ _ h => h) (by rfl) ?hk9 ?_
          case hk9 => (intro W hSW; have k0 := row_cell_of (HS2.out.below hSW HS2.out.lt) HLK2.out.1 HNV.out.1; go_simp; try with_reducible rfl)
          (try simp only [Act.put, List.setIfInBounds_toArray, List.set_cons_zero, List.set_cons_succ])
          refine' RL.takeV (i := 9) (v := _) rfl (by kernel_rfl) (by kernel_rfl) (by kernel_rfl) (fun _ _ _ h => h) (by rfl) ?hk10 ?_
          case hk10 => (intro W hSW; go_simp; try with_reducible rfl)
          (try simp only [Act.put, List.setIfInBounds_toArray, List.set_cons_zero, List.set_cons_succ])
          refine' RL.takeV (i := 10) (v := _) rfl (by kernel_rfl) (by kernel_rfl) (by kernel_rfl) (fun _ _ _ h => h) (by rfl) ?hk11 ?_
          case hk11 => (intro W hSW; have e4x := e4; go_simp; try with_reducible rfl)
          (try simp only [Act.put, List.setIfInBounds_toArray, List.set_cons_zero, List.set_cons_succ])
          refine' RL.takeV (i := 11) (v := _) rfl (by kernel_rfl) (by kernel_rfl) (by kernel_rfl) (fun _ _ _ h => h) (by rfl) ?hk12 ?_
          case hk12 => (intro W hSW; go_simp; try with_reducible rfl)
          (try simp only [Act.put, List.setIfInBounds_toArray, List.set_cons_zero, List.set_cons_succ])
          refine RL.done (by kernel_rfl) (fun wd hlwd hswd => ?_)
          have hlx : Below V2.heap.size V2 wd := (Below.drew (Below.refl _ _)).trans hlwd
          have HS3 := Lib.hid (HS2.out.below hlx HS2.out.lt)
          have HO3 := Lib.hid (HO2.out.below hlx HO2.out.lt)
          have HZ3 := Lib.hid (HZ2.out.below hlx HZ2.out.lt)
          have HB3 := Lib.hid (HB2.out.trans (hlx.mono (HB2.out.size_le HXB.out)))
          clear hlwd hswd hlx
          have c4 := row_cell_of HS3.out HLK2.out.1 HNV.out.1
          go_wp2_with ((with_reducible refine gate_ ?_); refine store_cell rfl 50 _ _ rfl (b := ob) (j := k) (v := v1 % W) rfl rfl Tryz.underlying50 (by kernel_rfl) HO3.out HOK.out ?_; intro V4 hV hgV; have HO4 := Lib.hid hV; have HS4 := Lib.hid (row_other HS3.out hgV HN7.out.1); have HZ4 := Lib.hid (blk_other HZ3.out hgV HN7.out.2.1); have HB4 := Lib.hid (HB3.out.grown hgV (HB3.out.size_le HXB.out) (fun j e => by cases e; exact HN7.out.2.2.1)); clear hV hgV c4)
          go_roundw
          case rel =>
            have REL := Lib.hid (show ∃ (k' : Nat) (L' : List Nat), k' ≤ 5 ∧ Value.int .i64 ((k : Int) + 1) = .int .i64 k' ∧ Value.int .u64 ((p ||| v1 / W : Nat) : Int) = .int .u64 ((it (rd T) k' (0, [0, 0, 0, 0, 0])).1 : Nat) ∧ Row V4 ob 53 (it (rd T) k' (0, [0, 0, 0, 0, 0])).2 ∧ Row V4 sb 87 L' ∧ L'.length = 10 ∧ (∀ j, k' * 2 ≤ j → nth L' j = nth (fl T) j) ∧ Rg.Blk V4 rb 53 Z5 ∧ Below xb w V4 from ⟨k + 1, L2, hk5, rfl, by rw [HST.out], by rw [HST.out]; exact HO4.out, HS4.out, HRE2.out.1, HRE2.out.2, HZ4.out, HB4.out⟩)
            first
              | exact REL.out
              | ((repeat apply Exists.intro); refine ⟨?_, rfl⟩; exact REL.out)
          case measure => (first | (simp [intOf]; done) | (simp [intOf]; omega))
        · obtain rfl : k = 5 := by omega
          have hdk : decide ((5 : Nat) < 5) = false := by simp
          have hmul : mul x y = carry ⟨((it (rd T) 5 (0, [0, 0, 0, 0, 0])).1 * 19 + nth (it (rd T) 5 (0, [0, 0, 0, 0, 0])).2 0) % W, (nth (it (rd T) 5 (0, [0, 0, 0, 0, 0])).2 1 + ((it (rd T) 5 (0, [0, 0, 0, 0, 0])).1 * 19 + nth (it (rd T) 5 (0, [0, 0, 0, 0, 0])).2 0) / W % M) % M, nth (it (rd T) 5 (0, [0, 0, 0, 0, 0])).2 2, nth (it (rd T) 5 (0, [0, 0, 0, 0, 0])).2 3, nth (it (rd T) 5 (0, [0, 0, 0, 0, 0])).2 4⟩ := by rw [← mulE_eq, ← HTE.out]; rfl
          have HRW := Lib.hid (it_rd_lt T 5)
          obtain ⟨q, hq⟩ : ∃ q, (it (rd T) 5 (0, [0, 0, 0, 0, 0])).1 = q := ⟨_, rfl⟩
          obtain ⟨R, hR⟩ : ∃ R, (it (rd T) 5 (0, [0, 0, 0, 0, 0])).2 = R := ⟨_, rfl⟩
          rw [hq, hR] at hmul
          rw [hq] at HQL ⊢
          rw [hR] at HO HOL HRW
          obtain ⟨o0, ho0⟩ : ∃ o0, nth R 0 = o0 := ⟨_, rfl⟩
          obtain ⟨o1, ho1⟩ : ∃ o1, nth R 1 = o1 := ⟨_, rfl⟩
          have HO0 := Lib.hid (show o0 < M from ho0 ▸ Nat.lt_trans (HRW.out 0) W_lt_M)
          rw [ho0, ho1] at hmul
          have hc := two_c (q * 19) o0 HO0.out
          have hm := two_m (q * 19) o0
          rw [tot_lt HQL.out HO0.out] at hc hm
          obtain ⟨p1, hp1⟩ : ∃ p1, q * 19 / M = p1 := ⟨_, rfl⟩
          obtain ⟨p2, hp2⟩ : ∃ p2, q * 19 % M = p2 := ⟨_, rfl⟩
          have HMU := Lib.hid (fun W => Tryz.bits_Mul64 q 19 HQL.out (by decide) W)
          rw [show (18446744073709551616 : Nat) = M from rfl, hp1, hp2] at HMU
          have hp1M : q * 19 / M % M = p1 := by rw [Nat.mod_eq_of_lt (div_lt HQL.out), hp1]
          rw [hp1M, hp2] at hc
          rw [hp2] at hm
          obtain ⟨ov, hov⟩ : ∃ ov, (p2 + o0) / M = ov := ⟨_, rfl⟩
          obtain ⟨v1, hv1⟩ : ∃ v1, (p2 + o0) % M = v1 := ⟨_, rfl⟩
          have HA0 := Lib.hid (fun W => add64_0 p2 o0 W)
          rw [hov, hv1] at HA0 hc
          rw [hv1] at hm
          obtain ⟨v2, hv2⟩ : ∃ v2, (p1 + ov) % M = v2 := ⟨_, rfl⟩
          have e2 : IntKind.u64.wrap ((p1 : Int) + (ov : Int)) = (v2 : Int) := by rw [wrap_add, hv2]
          rw [hv2] at hc
          have HV := Lib.hid (show v1 < M from hv1 ▸ mod_lt_M _)
          have e3 : IntKind.u64.wrap ((v2 : Int) * 8192) = ((v2 * 8192 % M : Nat) : Int) := wrap_shl v2
          obtain ⟨p, hp⟩ : ∃ p, v2 * 8192 % M = p := ⟨_, rfl⟩
          rw [hp] at e3 hc
          have e4 : bits .or .u64 (p : Int) ((v1 : Int) / 2251799813685248) = ((p ||| v1 / W : Nat) : Int) := wrap_or p (v1 / W) (hp ▸ mod_lt_M _) (Nat.lt_of_le_of_lt (Nat.div_le_self _ _) HV.out)
          have e5 : bits .and .u64 (v1 : Int) 2251799813685247 = ((v1 % W : Nat) : Int) := and_mask v1 HV.out
          rw [← hc, ← hm] at hmul
          obtain ⟨r, hr⟩ : ∃ r, (p ||| v1 / W) = r := ⟨_, rfl⟩
          rw [hr] at e4 hmul
          have e6 : IntKind.u64.wrap ((o1 : Int) + (r : Int)) = (((o1 + r) % M : Nat) : Int) := wrap_add o1 r
          obtain ⟨v3, hv3⟩ : ∃ v3, (o1 + r) % M = v3 := ⟨_, rfl⟩
          rw [hv3] at e6 hmul
          obtain ⟨F, hF⟩ : ∃ F : E, (⟨v1 % W, v3, nth R 2, nth R 3, nth R 4⟩ : E) = F := ⟨_, rfl⟩
          rw [hF] at hmul
          have HFL := Lib.hid (show (R.set 0 (v1 % W)).set 1 v3 = F.l from by rw [← hF]; exact set01 HOL.out _ _)
          have HMUL := Lib.hid hmul
          have c0 := row_cell_of HO.out (by rw [HOL.out]; decide) ho0
          have HO1 := Lib.hid ho1
          have HL01 := Lib.hid (show 0 < R.length ∧ 1 < (R.set 0 (v1 % W)).length by rw [List.length_set, HOL.out]; decide)
          clear hmul hq hR ho0 ho1 hc hm hp1 hp2 hp1M hov hv1 hv2 hp hr hv3 hF HS HRE
          have tok1 := True.intro
          go_wp2_with (first
            | (go_at_call 45; refine (HMU.out _).mono ?_; rintro e w9 ⟨rfl, rfl⟩; skip)
            | (simp only [HA0.out])
            | (have _t := tok1; (with_reducible refine gate_ ?_); refine store_cell rfl 50 _ _ rfl (b := ob) (j := 0) (v := v1 % W) rfl rfl Tryz.underlying50 (by kernel_rfl) HO.out HL01.out.1 ?_; intro V hV hgV; have HOa := Lib.hid hV; have HZa := Lib.hid (blk_other HZ.out hgV HN7.out.2.1); have HBa := Lib.hid (HB.out.grown hgV (HB.out.size_le HXB.out) (fun j e => by cases e; exact HN7.out.2.2.1)); have c1 := row_cell_of (j := 1) HOa.out HL01.out.2 ((nth_set_ne (by decide)).trans HO1.out); clear hV hgV c0; have tok2 := True.intro; clear _t tok1)
            | (have _t := tok2; (with_reducible refine gate_ ?_); refine store_cell rfl 50 _ _ rfl (b := ob) (j := 1) (v := v3) rfl rfl Tryz.underlying50 (by kernel_rfl) HOa.out HL01.out.2 ?_; intro V2 hV hgV; rw [HFL.out] at hV; have HOb := Lib.hid hV; have HZb := Lib.hid (blk_other HZa.out hgV HN7.out.2.1); have HBb := Lib.hid (HBa.out.grown hgV (HBa.out.size_le HXB.out) (fun j e => by cases e; exact HN7.out.2.2.1)); clear hV hgV c1 _t tok2)
            | ((with_reducible refine gate_ ?_); refine Cv.load_cells rfl 53 _ rfl ob 0 rfl (u64s F.l) _ (fun j v hv => by rw [Nat.zero_add]; exact Rg.Blk.cell (row_blk HOb.out) j hv) Tryz.underlying53 rfl (by rw [u64s_size]; kernel_rfl) ?_; skip)
            | (go_at_call 46; refine (carry_any _ F).mono ?_; rintro e w9 ⟨rfl, hb9⟩; skip; have HZ9 := Lib.hid (HZb.out.below hb9 HZb.out.lt); have HB9 := Lib.hid (HBb.out.trans (hb9.mono (HBb.out.size_le HXB.out))); clear hb9)
            | ((with_reducible refine gate_ ?_); refine Cv.store_blk rfl 53 _ _ rfl rb (u64s (carry F).l) Z5 53 rfl rfl HZ9.out (by rw [u64s_size]; kernel_rfl) (by rw [u64s_size]; rfl) (u64s_one _) ?_; intro V3 hV hgV; have HZZ := Lib.hid hV; have HBZ := Lib.hid (HB9.out.grown hgV (HB9.out.size_le HXB.out) (fun j e => by cases e; exact HN7.out.2.2.2.2.2.2)); clear hV hgV))
          refine bodyPost_ret (v := .agg (u64s (carry F).l))
            (results_cell_row Tryz.results24 _ _ rb 53 _ (0, 0) _ rfl HZZ.out Tryz.underlying53 rfl (by rw [u64s_size]; kernel_rfl)) rfl ?_
          exact ⟨by rw [HMUL.out], HXB.out ▸ HBZ.out⟩
end Go.Proofs.YtfaeigbfnjkojaaGreatDoor.Kx
namespace Go.Proofs.YtfaeigbfnjkojaaGreatDoor.Kx
open Go.RowKit Go.Proofs.YtfaeigbfnjkojaaGreatDoor.Cl
set_option maxRecDepth 20000 in
set_option maxHeartbeats 2000000 in
theorem Square_any (w : World) (x : E) (hx : x.ok) : Calls Tryz.prog 42 #[.agg (u64s x.l)] w fun e w' => e = .returned (.agg (u64s (sq x).l)) ∧ Below w.heap.size w w' := by
  have HOX := Lib.hid hx
  clear hx
  go_enter Tryz.func42, Tryz.ntmps42
  go_upto_region 1 with ((with_reducible refine gate_ ?_); refine Rg.box_fresh rfl 53 _ rfl (u64s x.l) rfl ?_; intro X hX hbX hnX; have HX := Lib.hid hX; have HBX := Lib.hid hbX; have HNX := Lib.hid hnX; clear hX hbX hnX)
  obtain ⟨xb, hxb⟩ : ∃ xb, w.heap.size = xb := ⟨_, rfl⟩
  obtain ⟨rb, hrb⟩ : ∃ rb, X.heap.size = rb := ⟨_, rfl⟩
  have HR := Lib.hid (show Row (X.alloc (.cells Z5 53)) xb 53 x.l from (hxb ▸ HX.out).alloc _)
  have HZ := Lib.hid (show Rg.Blk (X.alloc (.cells Z5 53)) rb 53 Z5 from Rg.Blk.newAt hrb.symm _ _)
  have HB := Lib.hid (show Below xb w (X.alloc (.cells Z5 53)) from hxb ▸ HBX.out.alloc HBX.out.size _)
  have HNE := Lib.hid (show xb ≠ rb ∧ xb ≤ rb from by have h1 := HX.out.lt; constructor <;> omega)
  have HXB := Lib.hid hxb
  rw [hxb, hrb, show (#[.int .u64 0, .int .u64 0, .int .u64 0, .int .u64 0, .int .u64 0] : Array Value) = Z5 from rfl]
  generalize X.alloc (.cells Z5 53) = Y at *
  clear HX HBX HNX hxb hrb
  go_wp2_with (first
    | ((with_reducible refine gate_ ?_); refine Cv.load_cells rfl 53 _ rfl xb 0 rfl (u64s x.l) _ (fun j v hv => by rw [Nat.zero_add]; exact Rg.Blk.cell (row_blk HR.out) j hv) Tryz.underlying53 rfl (by rw [u64s_size]; kernel_rfl) ?_; skip)
    | (go_at_call 24; refine (Mul_any _ x x HOX.out HOX.out).mono ?_; rintro e w9 ⟨rfl, hb9⟩; skip; have HZ9 := Lib.hid (HZ.out.below hb9 HZ.out.lt); have HB9 := Lib.hid (HB.out.trans (hb9.mono (HB.out.size_le HXB.out))); clear hb9)
    | ((with_reducible refine gate_ ?_); refine Cv.store_blk rfl 53 _ _ rfl rb (u64s (mul x x).l) Z5 53 rfl rfl HZ9.out (by rw [u64s_size]; kernel_rfl) (by rw [u64s_size]; first | rfl | rw [u64s_size]) (u64s_one _) ?_; intro V3 hV hgV; have HZZ := Lib.hid hV; have HBZ := Lib.hid (HB9.out.grown hgV (HB9.out.size_le HXB.out) (fun j e => by cases e; exact HNE.out.2)); clear hV hgV))
  refine bodyPost_ret (v := .agg (u64s (mul x x).l))
    (results_cell_row Tryz.results42 _ _ rb 53 _ (0, 0) _ rfl HZZ.out Tryz.underlying53 rfl (by rw [u64s_size]; kernel_rfl)) rfl ?_
  exact ⟨rfl, HXB.out ▸ HBZ.out⟩
set_option maxRecDepth 20000 in
set_option maxHeartbeats 2000000 in
theorem Small_any (w : World) (n : Nat) (hn : n < M) : Calls Tryz.prog 21 #[.int .u64 n] w fun e w' => e = .returned (.agg (u64s (small n).l)) ∧ Below w.heap.size w w' := by
  have e1 : bits .and .u64 (n : Int) 2251799813685247 = ((n % W : Nat) : Int) := and_mask n hn
  go_enter Tryz.func21, Tryz.ntmps21
  go_wp2_with (refine Rg.store_fresh rfl 53 _ _ rfl (u64s (small n).l) _ 53 rfl rfl (by rw [u64s_size]; kernel_rfl) rfl (u64s_one _) ?_; intro X hX hbX; have HZZ := Lib.hid hX; have HBZ := Lib.hid hbX; clear hX hbX)
  refine bodyPost_ret (v := .agg (u64s (small n).l))
    (results_cell_row Tryz.results21 _ _ w.heap.size 53 _ (0, 0) _ rfl HZZ.out Tryz.underlying53 rfl (by rw [u64s_size]; kernel_rfl)) rfl ?_
  exact ⟨rfl, HBZ.out⟩
set_option maxRecDepth 20000 in
set_option maxHeartbeats 2000000 in
theorem Choose_any (w : World) (f : Bool) (x y : E) : Calls Tryz.prog 39 #[.bool f, .agg (u64s x.l), .agg (u64s y.l)] w fun e w' => e = .returned (.agg (u64s (if f = true then x else y).l)) ∧ Below w.heap.size w w' := by
  cases f with
  | true =>
    go_enter Tryz.func39, Tryz.ntmps39
    have tok1 := True.intro
    go_upto_region 1 with (first
      | (have _t := tok1; (with_reducible refine gate_ ?_); refine Rg.box_fresh rfl 53 _ rfl (u64s x.l) rfl ?_; intro X hX hbX hnX; have HX := Lib.hid hX; have HBX := Lib.hid hbX; have HNX := Lib.hid hnX; clear hX hbX hnX; have tok2 := True.intro; clear _t tok1)
      | (have _t := tok2; (with_reducible refine gate_ ?_); refine Rg.box_fresh rfl 53 _ rfl (u64s y.l) rfl ?_; intro X2 hX hbX hnX; have HY2 := Lib.hid hX; have HBY := Lib.hid hbX; have HNY := Lib.hid hnX; clear hX hbX hnX; clear _t tok2))
    obtain ⟨xb, hxb⟩ : ∃ xb, w.heap.size = xb := ⟨_, rfl⟩
    obtain ⟨yb, hyb⟩ : ∃ yb, X.heap.size = yb := ⟨_, rfl⟩
    obtain ⟨rb, hrb⟩ : ∃ rb, X2.heap.size = rb := ⟨_, rfl⟩
    have HR := Lib.hid (show Row (X2.alloc (.cells Z5 53)) xb 53 x.l from ((hxb ▸ HX.out).below HBY.out (hxb ▸ HX.out.lt)).alloc _)
    have HY := Lib.hid (show Row (X2.alloc (.cells Z5 53)) yb 53 y.l from (hyb ▸ HY2.out).alloc _)
    have HZ := Lib.hid (show Rg.Blk (X2.alloc (.cells Z5 53)) rb 53 Z5 from Rg.Blk.newAt hrb.symm _ _)
    have HB := Lib.hid (show Below xb w (X2.alloc (.cells Z5 53)) from hxb ▸ (HBX.out.trans (HBY.out.mono HBX.out.size)).alloc (Nat.le_trans HBX.out.size HBY.out.size) _)
    have HNE := Lib.hid (show xb ≠ yb ∧ xb ≠ rb ∧ xb ≤ rb from by have h1 := HNX.out; have h2 := HNY.out; refine ⟨?_, ?_, ?_⟩ <;> omega)
    have HN2 := Lib.hid (show yb ≠ rb ∧ xb ≤ yb from by have h1 := HNX.out; have h2 := HNY.out; refine ⟨?_, ?_⟩ <;> omega)
    have HXB := Lib.hid hxb
    rw [hxb, hyb, hrb, show (#[.int .u64 0, .int .u64 0, .int .u64 0, .int .u64 0, .int .u64 0] : Array Value) = Z5 from rfl]
    generalize X2.alloc (.cells Z5 53) = Z at *
    clear HX HBX HY2 HBY HNX HNY hxb hyb hrb
    go_wp2_with (first
      | ((with_reducible refine gate_ ?_); refine Cv.load_cells rfl 53 _ rfl xb 0 rfl (u64s x.l) _ (fun j v hv => by rw [Nat.zero_add]; exact Rg.Blk.cell (row_blk HR.out) j hv) Tryz.underlying53 rfl (by rw [u64s_size]; kernel_rfl) ?_; skip)
      | ((with_reducible refine gate_ ?_); refine Cv.store_blk rfl 53 _ _ rfl rb (u64s x.l) Z5 53 rfl rfl HZ.out (by rw [u64s_size]; kernel_rfl) (by rw [u64s_size]; first | rfl | rw [u64s_size]) (u64s_one _) ?_; intro V3 hV hgV; have HZZ := Lib.hid hV; have HBZ := Lib.hid (HB.out.grown hgV (HB.out.size_le HXB.out) (fun j e => by cases e; exact HNE.out.2.2)); clear hV hgV))
    refine bodyPost_ret (v := .agg (u64s (x).l))
      (results_cell_row Tryz.results39 _ _ rb 53 _ (0, 0) _ rfl HZZ.out Tryz.underlying53 rfl (by rw [u64s_size]; kernel_rfl)) rfl ?_
    exact ⟨rfl, HXB.out ▸ HBZ.out⟩
  | false =>
    go_enter Tryz.func39, Tryz.ntmps39
    have tok1 := True.intro
    go_upto_region 1 with (first
      | (have _t := tok1; (with_reducible refine gate_ ?_); refine Rg.box_fresh rfl 53 _ rfl (u64s x.l) rfl ?_; intro X hX hbX hnX; have HX := Lib.hid hX; have HBX := Lib.hid hbX; have HNX := Lib.hid hnX; clear hX hbX hnX; have tok2 := True.intro; clear _t tok1)
      | (have _t := tok2; (with_reducible refine gate_ ?_); refine Rg.box_fresh rfl 53 _ rfl (u64s y.l) rfl ?_; intro X2 hX hbX hnX; have HY2 := Lib.hid hX; have HBY := Lib.hid hbX; have HNY := Lib.hid hnX; clear hX hbX hnX; clear _t tok2))
    obtain ⟨xb, hxb⟩ : ∃ xb, w.heap.size = xb := ⟨_, rfl⟩
    obtain ⟨yb, hyb⟩ : ∃ yb, X.heap.size = yb := ⟨_, rfl⟩
    obtain ⟨rb, hrb⟩ : ∃ rb, X2.heap.size = rb := ⟨_, rfl⟩
    have HR := Lib.hid (show Row (X2.alloc (.cells Z5 53)) xb 53 x.l from ((hxb ▸ HX.out).below HBY.out (hxb ▸ HX.out.lt)).alloc _)
    have HY := Lib.hid (show Row (X2.alloc (.cells Z5 53)) yb 53 y.l from (hyb ▸ HY2.out).alloc _)
    have HZ := Lib.hid (show Rg.Blk (X2.alloc (.cells Z5 53)) rb 53 Z5 from Rg.Blk.newAt hrb.symm _ _)
    have HB := Lib.hid (show Below xb w (X2.alloc (.cells Z5 53)) from hxb ▸ (HBX.out.trans (HBY.out.mono HBX.out.size)).alloc (Nat.le_trans HBX.out.size HBY.out.size) _)
    have HNE := Lib.hid (show xb ≠ yb ∧ xb ≠ rb ∧ xb ≤ rb from by have h1 := HNX.out; have h2 := HNY.out; refine ⟨?_, ?_, ?_⟩ <;> omega)
    have HN2 := Lib.hid (show yb ≠ rb ∧ xb ≤ yb from by have h1 := HNX.out; have h2 := HNY.out; refine ⟨?_, ?_⟩ <;> omega)
    have HXB := Lib.hid hxb
    rw [hxb, hyb, hrb, show (#[.int .u64 0, .int .u64 0, .int .u64 0, .int .u64 0, .int .u64 0] : Array Value) = Z5 from rfl]
    generalize X2.alloc (.cells Z5 53) = Z at *
    clear HX HBX HY2 HBY HNX HNY hxb hyb hrb
    go_wp2_with (first
      | ((with_reducible refine gate_ ?_); refine Cv.load_cells rfl 53 _ rfl yb 0 rfl (u64s y.l) _ (fun j v hv => by rw [Nat.zero_add]; exact Rg.Blk.cell (row_blk HY.out) j hv) Tryz.underlying53 rfl (by rw [u64s_size]; kernel_rfl) ?_; skip)
      | ((with_reducible refine gate_ ?_); refine Cv.store_blk rfl 53 _ _ rfl rb (u64s y.l) Z5 53 rfl rfl HZ.out (by rw [u64s_size]; kernel_rfl) (by rw [u64s_size]; first | rfl | rw [u64s_size]) (u64s_one _) ?_; intro V3 hV hgV; have HZZ := Lib.hid hV; have HBZ := Lib.hid (HB.out.grown hgV (HB.out.size_le HXB.out) (fun j e => by cases e; exact HNE.out.2.2)); clear hV hgV))
    refine bodyPost_ret (v := .agg (u64s (y).l))
      (results_cell_row Tryz.results39 _ _ rb 53 _ (0, 0) _ rfl HZZ.out Tryz.underlying53 rfl (by rw [u64s_size]; kernel_rfl)) rfl ?_
    exact ⟨rfl, HXB.out ▸ HBZ.out⟩
end Go.Proofs.YtfaeigbfnjkojaaGreatDoor.Kx
namespace Go.Proofs.YtfaeigbfnjkojaaGreatDoor.Kx
open Go.RowKit Go.Proofs.YtfaeigbfnjkojaaGreatDoor.Cl
theorem it_cr_succ (k : Nat) (s : Nat × List Nat) : it cr (k + 1) s = cr k (it cr k s) := rfl
set_option maxRecDepth 20000 in
set_option maxHeartbeats 2000000 in
theorem least_any (w : World) (x : E) : Calls Tryz.prog 48 #[.agg (u64s x.l)] w fun e w' => e = .returned (.agg (u64s (least x).l)) ∧ Below w.heap.size w w' := by
  go_enter Tryz.func48, Tryz.ntmps48
  go_upto_region 1 with ((with_reducible refine gate_ ?_); refine Rg.box_fresh rfl 53 _ rfl (u64s x.l) rfl ?_; intro X hX hbX hnX; have HX := Lib.hid hX; have HBX := Lib.hid hbX; have HNX := Lib.hid hnX; clear hX hbX hnX)
  obtain ⟨xb, hxb⟩ : ∃ xb, w.heap.size = xb := ⟨_, rfl⟩
  obtain ⟨rb, hrb⟩ : ∃ rb, X.heap.size = rb := ⟨_, rfl⟩
  have HR := Lib.hid (show Row (X.alloc (.cells Z5 53)) xb 53 x.l from (hxb ▸ HX.out).alloc _)
  have HZ := Lib.hid (show Rg.Blk (X.alloc (.cells Z5 53)) rb 53 Z5 from Rg.Blk.newAt hrb.symm _ _)
  have HB := Lib.hid (show Below xb w (X.alloc (.cells Z5 53)) from hxb ▸ HBX.out.alloc HBX.out.size _)
  have HNE := Lib.hid (show xb ≠ rb ∧ xb ≤ rb from by have h1 := HX.out.lt; constructor <;> omega)
  have HXB := Lib.hid hxb
  rw [hxb, hrb, show (#[.int .u64 0, .int .u64 0, .int .u64 0, .int .u64 0, .int .u64 0] : Array Value) = Z5 from rfl]
  generalize X.alloc (.cells Z5 53) = Y at *
  clear HX HBX HNX hxb hrb
  have tok1 := True.intro
  go_upto_region 2 with (first
    | ((with_reducible refine gate_ ?_); refine Cv.load_cells rfl 53 _ rfl xb 0 rfl (u64s x.l) _ (fun j v hv => by rw [Nat.zero_add]; exact Rg.Blk.cell (row_blk HR.out) j hv) Tryz.underlying53 rfl (by rw [u64s_size]; kernel_rfl) ?_; skip)
    | (have _t := tok1; go_at_call 46; refine (carry_any _ x).mono ?_; rintro e w9 ⟨rfl, hb9⟩; skip; have HR9 := Lib.hid (HR.out.below hb9 HR.out.lt); have HZ9 := Lib.hid (HZ.out.below hb9 HZ.out.lt); have HB9 := Lib.hid (HB.out.trans (hb9.mono (HB.out.size_le HXB.out))); clear hb9; have tok2 := True.intro; clear _t tok1)
    | (have _t := tok2; go_at_call 46; refine (carry_any _ (carry x)).mono ?_; rintro e w8 ⟨rfl, hb9⟩; skip; have HR8 := Lib.hid (HR9.out.below hb9 HR9.out.lt); have HZ8 := Lib.hid (HZ9.out.below hb9 HZ9.out.lt); have HB8 := Lib.hid (HB9.out.trans (hb9.mono (HB9.out.size_le HXB.out))); clear hb9 _t tok2)
    | ((with_reducible refine gate_ ?_); refine Cv.store_blk rfl 53 _ _ rfl xb (u64s (carry (carry x)).l) (u64s x.l) 53 rfl rfl (row_blk HR8.out) (by rw [u64s_size]; kernel_rfl) (by rw [u64s_size]; first | rfl | rw [u64s_size]) (u64s_one _) ?_; intro V3 hV hgV; have HRn := Lib.hid (show Row V3 xb 53 (carry (carry x)).l from hV); have HZn := Lib.hid (blk_other HZ8.out hgV HNE.out.1); have HBn := Lib.hid (HB8.out.grown hgV (HB8.out.size_le HXB.out) (fun j e => by cases e; exact Nat.le_refl _)); clear hV hgV))
  clear HR HZ HB HR9 HZ9 HB9 HR8 HZ8 HB8
  obtain ⟨y, hy⟩ : ∃ y, carry (carry x) = y := ⟨_, rfl⟩
  have HYE := Lib.hid hy
  rw [hy] at HRn
  rw [hy]
  clear hy
  go_upto_region 4 with ((with_reducible refine gate_ ?_); refine Cv.load_cells rfl 51 _ rfl xb 0 rfl (u64s y.l) _ (fun j v hv => by rw [Nat.zero_add]; exact Rg.Blk.cell (row_blk HRn.out) j hv) Tryz.underlying51 rfl (by rw [u64s_size]; kernel_rfl) ?_; skip)
  go_loopw [3, 12] (fun c i wr => ∃ k : Nat, k ≤ 5 ∧ i = .int .i64 k ∧ c = .int .u64 (it (lc y.l) k 19 : Nat) ∧ Row wr xb 53 y.l ∧ Rg.Blk wr rb 53 Z5 ∧ Below xb w wr) (fun _ i _ => 5 - (intOf i).toNat)
  case atStart => exact ⟨0, Nat.zero_le _, rfl, rfl, HRn.out, HZn.out, HBn.out⟩
  case round =>
    obtain ⟨k, hk, rfl, rfl, hr, hz, hb⟩ := hrel
    clear HRn HZn HBn
    have HRn := Lib.hid hr
    have HZn := Lib.hid hz
    have HBn := Lib.hid hb
    clear hr hz hb
    by_cases hk5 : k < 5
    · have hd : decide (k < 5) = true := by simp; exact hk5
      have hki : (k : Int) < 5 := by omega
      have hk0 : (0 : Int) ≤ k := by omega
      have hst : it (lc y.l) (k + 1) 19 = (nth y.l k + it (lc y.l) k 19) % M / W := rfl
      obtain ⟨n1, hn1⟩ : ∃ n1, nth y.l k = n1 := ⟨_, rfl⟩
      obtain ⟨q1, hq1⟩ : ∃ q1, it (lc y.l) k 19 = q1 := ⟨_, rfl⟩
      have hx1 := index_words (P := Tryz.prog) 51 50 5 y.l k Tryz.underlying51 Tryz.underlying50 (by kernel_rfl) rfl hk5 wr
      rw [hn1] at hx1
      rw [hn1, hq1] at hst
      have e1 : IntKind.u64.wrap ((n1 : Int) + (q1 : Int)) = (((n1 + q1) % M : Nat) : Int) := wrap_add n1 q1
      obtain ⟨v1, hv1⟩ : ∃ v1, (n1 + q1) % M = v1 := ⟨_, rfl⟩
      rw [hv1] at e1 hst
      have HST := Lib.hid hst
      rw [hq1]
      clear hst hn1 hq1 hv1
      go_wp2
      go_roundw
      case rel =>
        have REL := Lib.hid (show ∃ k' : Nat, k' ≤ 5 ∧ Value.int .i64 ((k : Int) + 1) = .int .i64 k' ∧ Value.int .u64 ((v1 : Int) / 2251799813685248) = .int .u64 (it (lc y.l) k' 19 : Nat) ∧ Row wr xb 53 y.l ∧ Rg.Blk wr rb 53 Z5 ∧ Below xb w wr from ⟨k + 1, hk5, rfl, by rw [HST.out]; rfl, HRn.out, HZn.out, HBn.out⟩)
        first
          | exact REL.out
          | ((repeat apply Exists.intro); refine ⟨?_, rfl⟩; exact REL.out)
      case measure => (first | (simp [intOf]; done) | (simp [intOf]; omega))
    · obtain rfl : k = 5 := by omega
      have hd : decide ((5 : Nat) < 5) = false := by simp
      have hli := least_it y
      obtain ⟨q, hq⟩ : ∃ q, it (lc y.l) 5 19 = q := ⟨_, rfl⟩
      rw [hq] at hli ⊢
      have c0 := HRn.out.cell 0 (by rw [E.len]; decide)
      obtain ⟨n0, hn0⟩ : ∃ n0, nth y.l 0 = n0 := ⟨_, rfl⟩
      rw [hn0] at c0 hli
      have e1 : IntKind.u64.wrap ((q : Int) * 19) = ((q * 19 % M : Nat) : Int) := wrap_mul q 19
      obtain ⟨p, hp⟩ : ∃ p, q * 19 % M = p := ⟨_, rfl⟩
      rw [hp] at e1 hli
      have e2 : IntKind.u64.wrap ((n0 : Int) + (p : Int)) = (((n0 + p) % M : Nat) : Int) := wrap_add n0 p
      obtain ⟨v, hv⟩ : ∃ v, (n0 + p) % M = v := ⟨_, rfl⟩
      rw [hv] at e2 hli
      have HLI0 := Lib.hid hli
      clear hli hq hn0 hp hv
      go_upto_region 9 with ((with_reducible refine gate_ ?_); refine store_cell rfl 50 _ _ rfl (b := xb) (j := 0) (v := v) rfl rfl Tryz.underlying50 (by kernel_rfl) HRn.out (by rw [E.len]; decide) ?_; intro V hV hgV; have HR0 := Lib.hid hV; have HZ := Lib.hid (blk_other HZn.out hgV HNE.out.1); have HB := Lib.hid (HBn.out.grown hgV (HBn.out.size_le HXB.out) (fun j e => by cases e; exact Nat.le_refl _)); clear hV hgV)
      clear c0 HRn HZn HBn
      obtain ⟨l1, hl1⟩ : ∃ l1, y.l.set 0 v = l1 := ⟨_, rfl⟩
      have HL1 := Lib.hid (show l1.length = 5 by rw [← hl1, List.length_set]; rfl)
      rw [hl1] at HR0 HLI0
      have HR := HR0
      have HLI := HLI0
      clear hl1 HR0 HLI0
      go_upto_region 11 with fail
      go_loopw [3, 28] (fun c i wr => ∃ k : Nat, k ≤ 5 ∧ i = .int .i64 k ∧ c = .int .u64 ((it cr k (0, l1)).1 : Nat) ∧ Row wr xb 53 (it cr k (0, l1)).2 ∧ Rg.Blk wr rb 53 Z5 ∧ Below xb w wr) (fun _ i _ => 5 - (intOf i).toNat)
      case atStart => exact ⟨0, Nat.zero_le _, rfl, rfl, by rw [it_zero]; exact HR.out, HZ.out, HB.out⟩
      case round =>
        obtain ⟨k, hk, rfl, rfl, hr, hz, hb⟩ := hrel
        clear HR HZ HB
        have HR := Lib.hid hr
        have HZ := Lib.hid hz
        have HB := Lib.hid hb
        have HL := Lib.hid (show (it cr k (0, l1)).2.length = 5 by rw [it_cr_len]; exact HL1.out)
        by_cases hk5 : k < 5
        · have hd : decide (k < 5) = true := by simp; exact hk5
          have hki : (k : Int) < 5 := by omega
          have hk0 : (0 : Int) ≤ k := by omega
          have c1 := hr.cell k (by rw [HL.out]; exact hk5)
          have hst := it_cr_succ k (0, l1)
          rw [cr_eq] at hst
          clear hr hz hb
          obtain ⟨n1, hn1⟩ : ∃ n1, nth (it cr k (0, l1)).2 k = n1 := ⟨_, rfl⟩
          obtain ⟨q1, hq1⟩ : ∃ q1, (it cr k (0, l1)).1 = q1 := ⟨_, rfl⟩
          obtain ⟨v1, hv1⟩ : ∃ v1, (n1 + q1) % M = v1 := ⟨_, rfl⟩
          have e1 : IntKind.u64.wrap ((n1 : Int) + (q1 : Int)) = (v1 : Int) := by rw [wrap_add, hv1]
          have e2 : bits .and .u64 (v1 : Int) 2251799813685247 = ((v1 % W : Nat) : Int) := and_mask v1 (hv1 ▸ mod_lt_M _)
          have HN1 := Lib.hid hn1
          have HQ1 := Lib.hid hq1
          have HV1 := Lib.hid hv1
          rw [hn1] at c1
          rw [hn1, hq1, hv1] at hst
          have HST := Lib.hid hst
          rw [hq1]
          clear hn1 hq1 hv1 hst
          have HLK := Lib.hid (show k < (it cr k (0, l1)).2.length by rw [HL.out]; exact hk5)
          have HLK2 := Lib.hid (show k < ((it cr k (0, l1)).2.set k v1).length by rw [List.length_set, HL.out]; exact hk5)
          have tok1 := True.intro
          go_wp2_with (first
            | (have _t := tok1; (with_reducible refine gate_ ?_); refine store_cell rfl 50 _ _ rfl (b := xb) (j := k) (v := v1) rfl rfl Tryz.underlying50 (by kernel_rfl) HR.out HLK.out ?_; intro V hV hgV; have HRV := Lib.hid hV; have HZV := Lib.hid (blk_other HZ.out hgV HNE.out.1); have HBV := Lib.hid (HB.out.grown hgV (HB.out.size_le HXB.out) (fun j e => by cases e; exact Nat.le_refl _)); have c2 := row_set_cell hV HLK.out; clear hV hgV c1; have tok2 := True.intro; clear _t tok1)
            | (have _t := tok2; (with_reducible refine gate_ ?_); refine store_cell rfl 50 _ _ rfl (b := xb) (j := k) (v := v1 % W) rfl rfl Tryz.underlying50 (by kernel_rfl) HRV.out HLK2.out ?_; intro V2 hV hgV; rw [List.set_set] at hV; have HRW := Lib.hid hV; have HZW := Lib.hid (blk_other HZV.out hgV HNE.out.1); have HBW := Lib.hid (HBV.out.grown hgV (HBV.out.size_le HXB.out) (fun j e => by cases e; exact Nat.le_refl _)); clear hV hgV c2 _t tok2))
          go_roundw
          case rel =>
            have REL := Lib.hid (show ∃ k' : Nat, k' ≤ 5 ∧ Value.int .i64 ((k : Int) + 1) = .int .i64 k' ∧ Value.int .u64 ((v1 : Int) / 2251799813685248) = .int .u64 ((it cr k' (0, l1)).1 : Nat) ∧ Row V2 xb 53 (it cr k' (0, l1)).2 ∧ Rg.Blk V2 rb 53 Z5 ∧ Below xb w V2 from ⟨k + 1, hk5, rfl, by rw [HST.out]; rfl, by rw [HST.out]; exact HRW.out, HZW.out, HBW.out⟩)
            first
              | exact REL.out
              | ((repeat apply Exists.intro); refine ⟨?_, rfl⟩; exact REL.out)
          case measure => (first | (simp [intOf]; done) | (simp [intOf]; omega))
        · obtain rfl : k = 5 := by omega
          have hd : decide ((5 : Nat) < 5) = false := by simp
          have HRC := Lib.hid (show Row wr xb 53 (least1 y).l from by rw [← HLI.out]; exact HR.out)
          go_wp2_with (first
            | ((with_reducible refine gate_ ?_); refine Cv.load_cells rfl 53 _ rfl xb 0 rfl (u64s (least1 y).l) _ (fun j v hv => by rw [Nat.zero_add]; exact Rg.Blk.cell (row_blk HRC.out) j hv) Tryz.underlying53 rfl (by rw [u64s_size]; kernel_rfl) ?_; skip)
            | ((with_reducible refine gate_ ?_); refine Cv.store_blk rfl 53 _ _ rfl rb (u64s (least1 y).l) Z5 53 rfl rfl HZ.out (by rw [u64s_size]; kernel_rfl) (by rw [u64s_size]; first | rfl | rw [u64s_size]) (u64s_one _) ?_; intro V3 hV hgV; have HZZ := Lib.hid hV; have HBZ := Lib.hid (HB.out.grown hgV (HB.out.size_le HXB.out) (fun j e => by cases e; exact HNE.out.2)); clear hV hgV))
          refine bodyPost_ret (v := .agg (u64s (least1 y).l))
            (results_cell_row Tryz.results48 _ _ rb 53 _ (0, 0) _ rfl HZZ.out Tryz.underlying53 rfl (by rw [u64s_size]; kernel_rfl)) rfl ?_
          exact ⟨by unfold least; rw [HYE.out], HXB.out ▸ HBZ.out⟩
end Go.Proofs.YtfaeigbfnjkojaaGreatDoor.Kx
namespace Go.Proofs.YtfaeigbfnjkojaaGreatDoor.Kx
open Go.RowKit Go.Proofs.YtfaeigbfnjkojaaGreatDoor.Cl
theorem co_E : Tryz.prog.cellsOf 53 = 5 := by kernel_rfl
theorem co_A : Tryz.prog.cellsOf 51 = 5 := by kernel_rfl
theorem co_U : Tryz.prog.cellsOf 50 = 1 := by kernel_rfl
theorem wf_u {n : Nat} (h : n < M) : (Lit.int .u64 (n : Int)).wf = true := by
  unfold M at h
  simp [Lit.wf]
  rw [show IntKind.u64.min = 0 from by kernel_rfl, show IntKind.u64.max = 18446744073709551615 from by kernel_rfl]
  omega
theorem form_E (x : E) : (Value.agg (u64s x.l)).formed Tryz.prog 53 = true := by
  simp [Value.formed, Tryz.underlying53, co_E, u64s_size]
theorem lits_E (x : E) (h : x.ok) : Tryz.prog.keyLits 3 53 (Value.agg (u64s x.l)).cells.toList = some [.int .u64 x.a, .int .u64 x.b, .int .u64 x.c, .int .u64 x.d, .int .u64 x.e] := by
  have h0 := wf_u (h 0)
  have h1 := wf_u (h 1)
  have h2 := wf_u (h 2)
  have h3 := wf_u (h 3)
  have h4 := wf_u (h 4)
  simp only [nth, E.l, List.getD_cons_zero, List.getD_cons_succ] at h0 h1 h2 h3 h4
  simp [Program.keyLits, Tryz.underlying53, Tryz.underlying51, Tryz.underlying50, co_E, co_A, co_U, u64s, E.l, Value.cells, List.range, List.range.loop, h0, h1, h2, h3, h4]
theorem kt_E : Tryz.prog.keyTypeAt 3 53 = true := by kernel_rfl
theorem form_A (x : E) : (Value.agg (u64s x.l)).formed Tryz.prog 51 = true := by
  simp [Value.formed, Tryz.underlying51, co_A, u64s_size]
theorem lits_A (x : E) (h : x.ok) : Tryz.prog.keyLits 2 51 (Value.agg (u64s x.l)).cells.toList = some [.int .u64 x.a, .int .u64 x.b, .int .u64 x.c, .int .u64 x.d, .int .u64 x.e] := by
  have h0 := wf_u (h 0)
  have h1 := wf_u (h 1)
  have h2 := wf_u (h 2)
  have h3 := wf_u (h 3)
  have h4 := wf_u (h 4)
  simp only [nth, E.l, List.getD_cons_zero, List.getD_cons_succ] at h0 h1 h2 h3 h4
  simp [Program.keyLits, Tryz.underlying51, Tryz.underlying50, co_A, co_U, u64s, E.l, Value.cells, List.range, List.range.loop, h0, h1, h2, h3, h4]
theorem kt_A : Tryz.prog.keyTypeAt 2 51 = true := by kernel_rfl
theorem run_equalInA (w : World) (x y : E) (hx : x.ok) (hy : y.ok) : (Op.equalIn 9999 51 (.agg ((u64s x.l).extract 0 5)) (.agg (u64s y.l))).run Tryz.prog w = .ok (x == y) w := by
  rw [show (u64s x.l).extract 0 5 = u64s x.l from rfl]
  obtain ⟨r, hr, hi⟩ := run_equalIn_deep (P := Tryz.prog) 9997 2 51 kt_A w 2 2 _ _ _ _ (form_A x) (form_A y) (lits_A x hx) (lits_A y hy)
  have he : r = (x == y) := by
    rw [Bool.eq_iff_iff, hi, beq_iff_eq]
    cases x; cases y
    simp
    constructor
    · rintro ⟨h0, h1, h2, h3, h4⟩; refine ⟨?_, ?_, ?_, ?_, ?_⟩ <;> omega
    · rintro ⟨rfl, rfl, rfl, rfl, rfl⟩; exact ⟨rfl, rfl, rfl, rfl, rfl⟩
  subst he
  exact hr
theorem run_eqlE (w : World) (x y : E) (hx : x.ok) (hy : y.ok) : (binOp .eql 53 (.agg (u64s x.l)) (.agg (u64s y.l))).run Tryz.prog w = .ok (.bool (x == y)) w := by
  obtain ⟨r, hr, hi⟩ := run_equalIn_deep (P := Tryz.prog) 9997 3 53 kt_E w 3 3 _ _ _ _ (form_E x) (form_E y) (lits_E x hx) (lits_E y hy)
  have he : r = (x == y) := by
    rw [Bool.eq_iff_iff, hi, beq_iff_eq]
    cases x; cases y
    simp
    constructor
    · rintro ⟨h0, h1, h2, h3, h4⟩; refine ⟨?_, ?_, ?_, ?_, ?_⟩ <;> omega
    · rintro ⟨rfl, rfl, rfl, rfl, rfl⟩; exact ⟨rfl, rfl, rfl, rfl, rfl⟩
  subst he
  simp only [binOp]
  have hr2 : (Op.equal 53 (.agg (u64s x.l)) (.agg (u64s y.l))).run Tryz.prog w = .ok (x == y) w := hr
  simp [hr2]
theorem least_ok (x : E) : (least x).ok := fun j => Nat.lt_trans (least_fit x j) W_lt_M
theorem zero_ok : E.ok ⟨0, 0, 0, 0, 0⟩ := E.ok5 (by decide) (by decide) (by decide) (by decide) (by decide)
set_option maxRecDepth 20000 in
set_option maxHeartbeats 2000000 in
theorem Zero_any (w : World) (x : E) : Calls Tryz.prog 27 #[.agg (u64s x.l)] w fun e w' => e = .returned (.bool (zero x)) ∧ Below w.heap.size w w' := by
  have HEQ := Lib.hid (fun W => show (Op.equalIn 9999 51 (.agg ((u64s (least x).l).extract 0 5)) (.agg #[.int .u64 0, .int .u64 0, .int .u64 0, .int .u64 0, .int .u64 0])).run Tryz.prog W = .ok (zero x) W from run_equalInA W (least x) ⟨0, 0, 0, 0, 0⟩ (least_ok x) zero_ok)
  cases hzx : zero x
  all_goals
   rw [hzx] at HEQ
   clear hzx
   go_enter Tryz.func27, Tryz.ntmps27
   go_upto_region 1 with ((with_reducible refine gate_ ?_); refine Rg.box_fresh rfl 53 _ rfl (u64s x.l) rfl ?_; intro X hX hbX hnX; have HX := Lib.hid hX; have HBX := Lib.hid hbX; clear hX hbX hnX)
   go_wp2_with (first
     | ((with_reducible refine gate_ ?_); refine Cv.load_cells rfl 53 _ rfl w.heap.size 0 rfl (u64s x.l) _ (fun j v hv => by rw [Nat.zero_add]; exact Rg.Blk.cell HX.out j hv) Tryz.underlying53 rfl (by rw [u64s_size]; kernel_rfl) ?_; skip)
     | (go_at_call 48; refine (least_any _ x).mono ?_; rintro e w9 ⟨rfl, hb9⟩; skip; have heq := HEQ.out w9; have HB9 := Lib.hid (HBX.out.trans (hb9.mono HBX.out.size)); clear hb9)
     | (simp only [HEQ.out]))
   go_ret
   exact ⟨rfl, HB9.out⟩
end Go.Proofs.YtfaeigbfnjkojaaGreatDoor.Kx
namespace Go.Proofs.YtfaeigbfnjkojaaGreatDoor.Kx
open Go.RowKit Go.Proofs.YtfaeigbfnjkojaaGreatDoor.Cl
theorem small_ok (n : Nat) (h : n < M) : (small n).ok := E.ok5 (Nat.lt_trans (mod_lt_W n) W_lt_M) (Nat.lt_of_le_of_lt (Nat.div_le_self _ _) h) (by decide) (by decide) (by decide)
theorem pw_ok (low : Nat) (x : E) : ∀ k, (pw low x k).ok
  | 0 => small_ok 1 (by decide)
  | k + 1 => by
    unfold pw
    simp only
    split
    · exact mul_ok _ _
    · exact mul_ok _ _
theorem pw_yes (x : E) (k : Nat) (h : (decide (8 ≤ 254 - k) || 235 / 2 ^ (254 - k) % 2 == 1) = true) : pw 235 x (k + 1) = mul (sq (pw 235 x k)) x := by
  show (if (decide (8 ≤ 254 - k) || 235 / 2 ^ (254 - k) % 2 == 1) = true then mul (sq (pw 235 x k)) x else sq (pw 235 x k)) = _
  rw [if_pos h]
theorem pw_no (x : E) (k : Nat) (h : (decide (8 ≤ 254 - k) || 235 / 2 ^ (254 - k) % 2 == 1) = false) : pw 235 x (k + 1) = sq (pw 235 x k) := by
  show (if (decide (8 ≤ 254 - k) || 235 / 2 ^ (254 - k) % 2 == 1) = true then mul (sq (pw 235 x k)) x else sq (pw 235 x k)) = _
  rw [if_neg (by rw [h]; decide)]
set_option maxRecDepth 20000 in
set_option maxHeartbeats 2000000 in
theorem power_any (w : World) (x : E) (hx : x.ok) : Calls Tryz.prog 47 #[.agg (u64s x.l), .int .u64 21, .int .i64 0] w fun e w' => e = .returned (.agg (u64s (pw 235 x 255).l)) ∧ Below w.heap.size w w' := by
  have HOX := Lib.hid hx
  clear hx
  go_enter Tryz.func47, Tryz.ntmps47
  go_upto_region 1 with ((with_reducible refine gate_ ?_); refine Rg.box_fresh rfl 53 _ rfl (u64s x.l) rfl ?_; intro X hX hbX hnX; have HX := Lib.hid hX; have HBX := Lib.hid hbX; have HNX := Lib.hid hnX; clear hX hbX hnX)
  obtain ⟨xb, hxb⟩ : ∃ xb, w.heap.size = xb := ⟨_, rfl⟩
  obtain ⟨rb, hrb⟩ : ∃ rb, X.heap.size = rb := ⟨_, rfl⟩
  have HR := Lib.hid (show Row (X.alloc (.cells Z5 53)) xb 53 x.l from (hxb ▸ HX.out).alloc _)
  have HZ := Lib.hid (show Rg.Blk (X.alloc (.cells Z5 53)) rb 53 Z5 from Rg.Blk.newAt hrb.symm _ _)
  have HB := Lib.hid (show Below xb w (X.alloc (.cells Z5 53)) from hxb ▸ HBX.out.alloc HBX.out.size _)
  have HNE := Lib.hid (show xb ≠ rb ∧ xb ≤ rb from by have h1 := HX.out.lt; constructor <;> omega)
  have HXB := Lib.hid hxb
  rw [hxb, hrb, show (#[.int .u64 0, .int .u64 0, .int .u64 0, .int .u64 0, .int .u64 0] : Array Value) = Z5 from rfl]
  generalize X.alloc (.cells Z5 53) = Y at *
  clear HX HBX HNX hxb hrb
  have HR0 := HR
  go_upto_region 2 with (first
    | (go_at_call 21; refine (Small_any _ 1 (by decide)).mono ?_; rintro e w9 ⟨rfl, hb9⟩; skip; have HR9 := Lib.hid (HR.out.below hb9 HR.out.lt); have HZ9 := Lib.hid (HZ.out.below hb9 HZ.out.lt); have HB9 := Lib.hid (HB.out.trans (hb9.mono (HB.out.size_le HXB.out))); clear hb9)
    | (refine Rg.store_fresh rfl 53 _ _ rfl (u64s (small 1).l) _ 53 rfl rfl (by rw [u64s_size]; kernel_rfl) rfl (u64s_one _) ?_; intro X1 hX hbX; have HO0 := Lib.hid hX; have HB0 := Lib.hid hbX; clear hX hbX))
  obtain ⟨ob, hob⟩ : ∃ ob, w9.heap.size = ob := ⟨_, rfl⟩
  have HNO := Lib.hid (show ob ≠ xb ∧ ob ≠ rb ∧ xb ≤ ob from by have h1 := HR9.out.lt; have h2 := HZ9.out.lt; refine ⟨?_, ?_, ?_⟩ <;> omega)
  have HO := Lib.hid (show Row X1 ob 53 (small 1).l from hob ▸ HO0.out)
  clear HR HZ HB
  have HR := Lib.hid (HR9.out.below HB0.out HR9.out.lt)
  have HZ := Lib.hid (HZ9.out.below HB0.out HZ9.out.lt)
  have HB := Lib.hid (HB9.out.trans (HB0.out.mono (HB9.out.size_le HXB.out)))
  rw [hob]
  clear HR0 HR9 HZ9 HB9 HO0 HB0 hob
  go_upto_region 4 with fail
  go_loopw [9] (fun i wr => ∃ k : Nat, k ≤ 255 ∧ i = .int .i64 (254 - (k : Int)) ∧ Row wr ob 53 (pw 235 x k).l ∧ Row wr xb 53 x.l ∧ Rg.Blk wr rb 53 Z5 ∧ Below xb w wr) (fun i _ => (intOf i + 1).toNat)
  case atStart => exact ⟨0, Nat.zero_le _, rfl, HO.out, HR.out, HZ.out, HB.out⟩
  case round =>
    obtain ⟨k, hk, rfl, ho, hr, hz, hb⟩ := hrel
    clear HO HR HZ HB
    have HO := Lib.hid ho
    have HR := Lib.hid hr
    have HZ := Lib.hid hz
    have HB := Lib.hid hb
    clear ho hr hz hb
    have HOK := Lib.hid (pw_ok 235 x k)
    by_cases hk5 : k < 255
    · have hd : decide ((0 : Int) ≤ 254 - (k : Int)) = true := by simp; omega
      have hd0 : (0 : Int) ≤ 254 - (k : Int) := by omega
      have HYS := Lib.hid (pw_yes x k)
      have HNS := Lib.hid (pw_no x k)
      obtain ⟨y, hy⟩ : ∃ y, pw 235 x k = y := ⟨_, rfl⟩
      rw [hy] at HO HOK HYS HNS
      clear hy
      go_upto_region 7 with (first
        | ((with_reducible refine gate_ ?_); refine Cv.load_cells rfl 53 _ rfl ob 0 rfl (u64s y.l) _ (fun j v hv => by rw [Nat.zero_add]; exact Rg.Blk.cell (row_blk HO.out) j hv) Tryz.underlying53 rfl (by rw [u64s_size]; kernel_rfl) ?_; skip)
        | (go_at_call 42; refine (Square_any _ y HOK.out).mono ?_; rintro e w9 ⟨rfl, hb9⟩; skip; have HO9 := Lib.hid (HO.out.below hb9 HO.out.lt); have HR9 := Lib.hid (HR.out.below hb9 HR.out.lt); have HZ9 := Lib.hid (HZ.out.below hb9 HZ.out.lt); have HB9 := Lib.hid (HB.out.trans (hb9.mono (HB.out.size_le HXB.out))); clear hb9 HO HR HZ HB)
        | ((with_reducible refine gate_ ?_); refine Cv.store_blk rfl 53 _ _ rfl ob (u64s (sq y).l) (u64s y.l) 53 rfl rfl (row_blk HO9.out) (by rw [u64s_size]; kernel_rfl) (by rw [u64s_size]; first | rfl | rw [u64s_size]) (u64s_one _) ?_; intro V3 hV hgV; have HO := Lib.hid (show Row V3 ob 53 (sq y).l from hV); have HR := Lib.hid (row_other HR9.out hgV HNO.out.1); have HZ := Lib.hid (blk_other HZ9.out hgV HNO.out.2.1); have HB := Lib.hid (HB9.out.grown hgV (HB9.out.size_le HXB.out) (fun j e => by cases e; exact HNO.out.2.2)); clear hV hgV))
      clear HO9 HR9 HZ9 HB9
      by_cases h8 : k ≤ 246
      · have hd8 : decide ((8 : Int) ≤ 254 - (k : Int)) = true := by simp; omega
        have hd9 : (8 : Int) ≤ 254 - (k : Int) := by omega
        have HST := Lib.hid (HYS.out (by rw [Bool.or_eq_true]; left; simp; omega))
        go_wp2_with (first
          | ((with_reducible refine gate_ ?_); refine Cv.load_cells rfl 53 _ rfl ob 0 rfl (u64s (sq y).l) _ (fun j v hv => by rw [Nat.zero_add]; exact Rg.Blk.cell (row_blk HO.out) j hv) Tryz.underlying53 rfl (by rw [u64s_size]; kernel_rfl) ?_; skip)
          | ((with_reducible refine gate_ ?_); refine Cv.load_cells rfl 53 _ rfl xb 0 rfl (u64s x.l) _ (fun j v hv => by rw [Nat.zero_add]; exact Rg.Blk.cell (row_blk HR.out) j hv) Tryz.underlying53 rfl (by rw [u64s_size]; kernel_rfl) ?_; skip)
          | (go_at_call 24; refine (Mul_any _ (sq y) x (mul_ok y y) HOX.out).mono ?_; rintro e w9 ⟨rfl, hb9⟩; skip; have HO9 := Lib.hid (HO.out.below hb9 HO.out.lt); have HR9 := Lib.hid (HR.out.below hb9 HR.out.lt); have HZ9 := Lib.hid (HZ.out.below hb9 HZ.out.lt); have HB9 := Lib.hid (HB.out.trans (hb9.mono (HB.out.size_le HXB.out))); clear hb9 HO HR HZ HB)
          | ((with_reducible refine gate_ ?_); refine Cv.store_blk rfl 53 _ _ rfl ob (u64s (mul (sq y) x).l) (u64s (sq y).l) 53 rfl rfl (row_blk HO9.out) (by rw [u64s_size]; kernel_rfl) (by rw [u64s_size]; first | rfl | rw [u64s_size]) (u64s_one _) ?_; intro V4 hV hgV; have HO := Lib.hid (show Row V4 ob 53 (mul (sq y) x).l from hV); have HR := Lib.hid (row_other HR9.out hgV HNO.out.1); have HZ := Lib.hid (blk_other HZ9.out hgV HNO.out.2.1); have HB := Lib.hid (HB9.out.grown hgV (HB9.out.size_le HXB.out) (fun j e => by cases e; exact HNO.out.2.2)); clear hV hgV))
        go_roundw
        case rel =>
          have REL := Lib.hid (show ∃ k' : Nat, k' ≤ 255 ∧ Value.int .i64 (254 - (k : Int) - 1) = .int .i64 (254 - (k' : Int)) ∧ Row V4 ob 53 (pw 235 x k').l ∧ Row V4 xb 53 x.l ∧ Rg.Blk V4 rb 53 Z5 ∧ Below xb w V4 from ⟨k + 1, hk5, congrArg _ (by omega), by rw [HST.out]; exact HO.out, HR.out, HZ.out, HB.out⟩)
          first
            | exact REL.out
            | ((repeat apply Exists.intro); refine ⟨?_, rfl⟩; exact REL.out)
        case measure => (first | (simp [intOf]; done) | (simp [intOf]; omega))
      · have h9 : k = 247 ∨ k = 248 ∨ k = 249 ∨ k = 250 ∨ k = 251 ∨ k = 252 ∨ k = 253 ∨ k = 254 := by omega
        clear hd hd0 h8
        rcases h9 with h9 | h9 | h9 | h9 | h9 | h9 | h9 | h9
        · have HST := Lib.hid (HYS.out (by rw [h9]; decide))
          have hat : (254 : Int) - (k : Int) = 7 := by omega
          rw [hat]
          clear hat HYS HNS
          go_wp2_with (first
            | ((with_reducible refine gate_ ?_); refine Cv.load_cells rfl 53 _ rfl ob 0 rfl (u64s (sq y).l) _ (fun j v hv => by rw [Nat.zero_add]; exact Rg.Blk.cell (row_blk HO.out) j hv) Tryz.underlying53 rfl (by rw [u64s_size]; kernel_rfl) ?_; skip)
            | ((with_reducible refine gate_ ?_); refine Cv.load_cells rfl 53 _ rfl xb 0 rfl (u64s x.l) _ (fun j v hv => by rw [Nat.zero_add]; exact Rg.Blk.cell (row_blk HR.out) j hv) Tryz.underlying53 rfl (by rw [u64s_size]; kernel_rfl) ?_; skip)
            | (go_at_call 24; refine (Mul_any _ (sq y) x (mul_ok y y) HOX.out).mono ?_; rintro e w9 ⟨rfl, hb9⟩; skip; have HO9 := Lib.hid (HO.out.below hb9 HO.out.lt); have HR9 := Lib.hid (HR.out.below hb9 HR.out.lt); have HZ9 := Lib.hid (HZ.out.below hb9 HZ.out.lt); have HB9 := Lib.hid (HB.out.trans (hb9.mono (HB.out.size_le HXB.out))); clear hb9 HO HR HZ HB)
            | ((with_reducible refine gate_ ?_); refine Cv.store_blk rfl 53 _ _ rfl ob (u64s (mul (sq y) x).l) (u64s (sq y).l) 53 rfl rfl (row_blk HO9.out) (by rw [u64s_size]; kernel_rfl) (by rw [u64s_size]; first | rfl | rw [u64s_size]) (u64s_one _) ?_; intro V4 hV hgV; have HO := Lib.hid (show Row V4 ob 53 (mul (sq y) x).l from hV); have HR := Lib.hid (row_other HR9.out hgV HNO.out.1); have HZ := Lib.hid (blk_other HZ9.out hgV HNO.out.2.1); have HB := Lib.hid (HB9.out.grown hgV (HB9.out.size_le HXB.out) (fun j e => by cases e; exact HNO.out.2.2)); clear hV hgV))
          go_roundw
          case rel =>
            have REL := Lib.hid (show ∃ k' : Nat, k' ≤ 255 ∧ Value.int .i64 ((6 : Int)) = .int .i64 (254 - (k' : Int)) ∧ Row V4 ob 53 (pw 235 x k').l ∧ Row V4 xb 53 x.l ∧ Rg.Blk V4 rb 53 Z5 ∧ Below xb w V4 from ⟨k + 1, hk5, congrArg _ (by omega), by rw [HST.out]; exact HO.out, HR.out, HZ.out, HB.out⟩)
            first
              | exact REL.out
              | ((repeat apply Exists.intro); refine ⟨?_, rfl⟩; exact REL.out)
          case measure => (first | (simp [intOf]; done) | (simp [intOf]; omega))
        · have HST := Lib.hid (HYS.out (by rw [h9]; decide))
          have hat : (254 : Int) - (k : Int) = 6 := by omega
          rw [hat]
          clear hat HYS HNS
          go_wp2_with (first
            | ((with_reducible refine gate_ ?_); refine Cv.load_cells rfl 53 _ rfl ob 0 rfl (u64s (sq y).l) _ (fun j v hv => by rw [Nat.zero_add]; exact Rg.Blk.cell (row_blk HO.out) j hv) Tryz.underlying53 rfl (by rw [u64s_size]; kernel_rfl) ?_; skip)
            | ((with_reducible refine gate_ ?_); refine Cv.load_cells rfl 53 _ rfl xb 0 rfl (u64s x.l) _ (fun j v hv => by rw [Nat.zero_add]; exact Rg.Blk.cell (row_blk HR.out) j hv) Tryz.underlying53 rfl (by rw [u64s_size]; kernel_rfl) ?_; skip)
            | (go_at_call 24; refine (Mul_any _ (sq y) x (mul_ok y y) HOX.out).mono ?_; rintro e w9 ⟨rfl, hb9⟩; skip; have HO9 := Lib.hid (HO.out.below hb9 HO.out.lt); have HR9 := Lib.hid (HR.out.below hb9 HR.out.lt); have HZ9 := Lib.hid (HZ.out.below hb9 HZ.out.lt); have HB9 := Lib.hid (HB.out.trans (hb9.mono (HB.out.size_le HXB.out))); clear hb9 HO HR HZ HB)
            | ((with_reducible refine gate_ ?_); refine Cv.store_blk rfl 53 _ _ rfl ob (u64s (mul (sq y) x).l) (u64s (sq y).l) 53 rfl rfl (row_blk HO9.out) (by rw [u64s_size]; kernel_rfl) (by rw [u64s_size]; first | rfl | rw [u64s_size]) (u64s_one _) ?_; intro V4 hV hgV; have HO := Lib.hid (show Row V4 ob 53 (mul (sq y) x).l from hV); have HR := Lib.hid (row_other HR9.out hgV HNO.out.1); have HZ := Lib.hid (blk_other HZ9.out hgV HNO.out.2.1); have HB := Lib.hid (HB9.out.grown hgV (HB9.out.size_le HXB.out) (fun j e => by cases e; exact HNO.out.2.2)); clear hV hgV))
          go_roundw
          case rel =>
            have REL := Lib.hid (show ∃ k' : Nat, k' ≤ 255 ∧ Value.int .i64 ((5 : Int)) = .int .i64 (254 - (k' : Int)) ∧ Row V4 ob 53 (pw 235 x k').l ∧ Row V4 xb 53 x.l ∧ Rg.Blk V4 rb 53 Z5 ∧ Below xb w V4 from ⟨k + 1, hk5, congrArg _ (by omega), by rw [HST.out]; exact HO.out, HR.out, HZ.out, HB.out⟩)
            first
              | exact REL.out
              | ((repeat apply Exists.intro); refine ⟨?_, rfl⟩; exact REL.out)
          case measure => (first | (simp [intOf]; done) | (simp [intOf]; omega))
        · have HST := Lib.hid (HYS.out (by rw [h9]; decide))
          have hat : (254 : Int) - (k : Int) = 5 := by omega
          rw [hat]
          clear hat HYS HNS
          go_wp2_with (first
            | ((with_reducible refine gate_ ?_); refine Cv.load_cells rfl 53 _ rfl ob 0 rfl (u64s (sq y).l) _ (fun j v hv => by rw [Nat.zero_add]; exact Rg.Blk.cell (row_blk HO.out) j hv) Tryz.underlying53 rfl (by rw [u64s_size]; kernel_rfl) ?_; skip)
            | ((with_reducible refine gate_ ?_); refine Cv.load_cells rfl 53 _ rfl xb 0 rfl (u64s x.l) _ (fun j v hv => by rw [Nat.zero_add]; exact Rg.Blk.cell (row_blk HR.out) j hv) Tryz.underlying53 rfl (by rw [u64s_size]; kernel_rfl) ?_; skip)
            | (go_at_call 24; refine (Mul_any _ (sq y) x (mul_ok y y) HOX.out).mono ?_; rintro e w9 ⟨rfl, hb9⟩; skip; have HO9 := Lib.hid (HO.out.below hb9 HO.out.lt); have HR9 := Lib.hid (HR.out.below hb9 HR.out.lt); have HZ9 := Lib.hid (HZ.out.below hb9 HZ.out.lt); have HB9 := Lib.hid (HB.out.trans (hb9.mono (HB.out.size_le HXB.out))); clear hb9 HO HR HZ HB)
            | ((with_reducible refine gate_ ?_); refine Cv.store_blk rfl 53 _ _ rfl ob (u64s (mul (sq y) x).l) (u64s (sq y).l) 53 rfl rfl (row_blk HO9.out) (by rw [u64s_size]; kernel_rfl) (by rw [u64s_size]; first | rfl | rw [u64s_size]) (u64s_one _) ?_; intro V4 hV hgV; have HO := Lib.hid (show Row V4 ob 53 (mul (sq y) x).l from hV); have HR := Lib.hid (row_other HR9.out hgV HNO.out.1); have HZ := Lib.hid (blk_other HZ9.out hgV HNO.out.2.1); have HB := Lib.hid (HB9.out.grown hgV (HB9.out.size_le HXB.out) (fun j e => by cases e; exact HNO.out.2.2)); clear hV hgV))
          go_roundw
          case rel =>
            have REL := Lib.hid (show ∃ k' : Nat, k' ≤ 255 ∧ Value.int .i64 ((4 : Int)) = .int .i64 (254 - (k' : Int)) ∧ Row V4 ob 53 (pw 235 x k').l ∧ Row V4 xb 53 x.l ∧ Rg.Blk V4 rb 53 Z5 ∧ Below xb w V4 from ⟨k + 1, hk5, congrArg _ (by omega), by rw [HST.out]; exact HO.out, HR.out, HZ.out, HB.out⟩)
            first
              | exact REL.out
              | ((repeat apply Exists.intro); refine ⟨?_, rfl⟩; exact REL.out)
          case measure => (first | (simp [intOf]; done) | (simp [intOf]; omega))
        · have HST := Lib.hid (HNS.out (by rw [h9]; decide))
          have hat : (254 : Int) - (k : Int) = 4 := by omega
          rw [hat]
          clear hat HYS HNS
          go_wp2
          go_roundw
          case rel =>
            have REL := Lib.hid (show ∃ k' : Nat, k' ≤ 255 ∧ Value.int .i64 ((3 : Int)) = .int .i64 (254 - (k' : Int)) ∧ Row V3 ob 53 (pw 235 x k').l ∧ Row V3 xb 53 x.l ∧ Rg.Blk V3 rb 53 Z5 ∧ Below xb w V3 from ⟨k + 1, hk5, congrArg _ (by omega), by rw [HST.out]; exact HO.out, HR.out, HZ.out, HB.out⟩)
            first
              | exact REL.out
              | ((repeat apply Exists.intro); refine ⟨?_, rfl⟩; exact REL.out)
          case measure => (first | (simp [intOf]; done) | (simp [intOf]; omega))
        · have HST := Lib.hid (HYS.out (by rw [h9]; decide))
          have hat : (254 : Int) - (k : Int) = 3 := by omega
          rw [hat]
          clear hat HYS HNS
          go_wp2_with (first
            | ((with_reducible refine gate_ ?_); refine Cv.load_cells rfl 53 _ rfl ob 0 rfl (u64s (sq y).l) _ (fun j v hv => by rw [Nat.zero_add]; exact Rg.Blk.cell (row_blk HO.out) j hv) Tryz.underlying53 rfl (by rw [u64s_size]; kernel_rfl) ?_; skip)
            | ((with_reducible refine gate_ ?_); refine Cv.load_cells rfl 53 _ rfl xb 0 rfl (u64s x.l) _ (fun j v hv => by rw [Nat.zero_add]; exact Rg.Blk.cell (row_blk HR.out) j hv) Tryz.underlying53 rfl (by rw [u64s_size]; kernel_rfl) ?_; skip)
            | (go_at_call 24; refine (Mul_any _ (sq y) x (mul_ok y y) HOX.out).mono ?_; rintro e w9 ⟨rfl, hb9⟩; skip; have HO9 := Lib.hid (HO.out.below hb9 HO.out.lt); have HR9 := Lib.hid (HR.out.below hb9 HR.out.lt); have HZ9 := Lib.hid (HZ.out.below hb9 HZ.out.lt); have HB9 := Lib.hid (HB.out.trans (hb9.mono (HB.out.size_le HXB.out))); clear hb9 HO HR HZ HB)
            | ((with_reducible refine gate_ ?_); refine Cv.store_blk rfl 53 _ _ rfl ob (u64s (mul (sq y) x).l) (u64s (sq y).l) 53 rfl rfl (row_blk HO9.out) (by rw [u64s_size]; kernel_rfl) (by rw [u64s_size]; first | rfl | rw [u64s_size]) (u64s_one _) ?_; intro V4 hV hgV; have HO := Lib.hid (show Row V4 ob 53 (mul (sq y) x).l from hV); have HR := Lib.hid (row_other HR9.out hgV HNO.out.1); have HZ := Lib.hid (blk_other HZ9.out hgV HNO.out.2.1); have HB := Lib.hid (HB9.out.grown hgV (HB9.out.size_le HXB.out) (fun j e => by cases e; exact HNO.out.2.2)); clear hV hgV))
          go_roundw
          case rel =>
            have REL := Lib.hid (show ∃ k' : Nat, k' ≤ 255 ∧ Value.int .i64 ((2 : Int)) = .int .i64 (254 - (k' : Int)) ∧ Row V4 ob 53 (pw 235 x k').l ∧ Row V4 xb 53 x.l ∧ Rg.Blk V4 rb 53 Z5 ∧ Below xb w V4 from ⟨k + 1, hk5, congrArg _ (by omega), by rw [HST.out]; exact HO.out, HR.out, HZ.out, HB.out⟩)
            first
              | exact REL.out
              | ((repeat apply Exists.intro); refine ⟨?_, rfl⟩; exact REL.out)
          case measure => (first | (simp [intOf]; done) | (simp [intOf]; omega))
        · have HST := Lib.hid (HNS.out (by rw [h9]; decide))
          have hat : (254 : Int) - (k : Int) = 2 := by omega
          rw [hat]
          clear hat HYS HNS
          go_wp2
          go_roundw
          case rel =>
            have REL := Lib.hid (show ∃ k' : Nat, k' ≤ 255 ∧ Value.int .i64 ((1 : Int)) = .int .i64 (254 - (k' : Int)) ∧ Row V3 ob 53 (pw 235 x k').l ∧ Row V3 xb 53 x.l ∧ Rg.Blk V3 rb 53 Z5 ∧ Below xb w V3 from ⟨k + 1, hk5, congrArg _ (by omega), by rw [HST.out]; exact HO.out, HR.out, HZ.out, HB.out⟩)
            first
              | exact REL.out
              | ((repeat apply Exists.intro); refine ⟨?_, rfl⟩; exact REL.out)
          case measure => (first | (simp [intOf]; done) | (simp [intOf]; omega))
        · have HST := Lib.hid (HYS.out (by rw [h9]; decide))
          have hat : (254 : Int) - (k : Int) = 1 := by omega
          rw [hat]
          clear hat HYS HNS
          go_wp2_with (first
            | ((with_reducible refine gate_ ?_); refine Cv.load_cells rfl 53 _ rfl ob 0 rfl (u64s (sq y).l) _ (fun j v hv => by rw [Nat.zero_add]; exact Rg.Blk.cell (row_blk HO.out) j hv) Tryz.underlying53 rfl (by rw [u64s_size]; kernel_rfl) ?_; skip)
            | ((with_reducible refine gate_ ?_); refine Cv.load_cells rfl 53 _ rfl xb 0 rfl (u64s x.l) _ (fun j v hv => by rw [Nat.zero_add]; exact Rg.Blk.cell (row_blk HR.out) j hv) Tryz.underlying53 rfl (by rw [u64s_size]; kernel_rfl) ?_; skip)
            | (go_at_call 24; refine (Mul_any _ (sq y) x (mul_ok y y) HOX.out).mono ?_; rintro e w9 ⟨rfl, hb9⟩; skip; have HO9 := Lib.hid (HO.out.below hb9 HO.out.lt); have HR9 := Lib.hid (HR.out.below hb9 HR.out.lt); have HZ9 := Lib.hid (HZ.out.below hb9 HZ.out.lt); have HB9 := Lib.hid (HB.out.trans (hb9.mono (HB.out.size_le HXB.out))); clear hb9 HO HR HZ HB)
            | ((with_reducible refine gate_ ?_); refine Cv.store_blk rfl 53 _ _ rfl ob (u64s (mul (sq y) x).l) (u64s (sq y).l) 53 rfl rfl (row_blk HO9.out) (by rw [u64s_size]; kernel_rfl) (by rw [u64s_size]; first | rfl | rw [u64s_size]) (u64s_one _) ?_; intro V4 hV hgV; have HO := Lib.hid (show Row V4 ob 53 (mul (sq y) x).l from hV); have HR := Lib.hid (row_other HR9.out hgV HNO.out.1); have HZ := Lib.hid (blk_other HZ9.out hgV HNO.out.2.1); have HB := Lib.hid (HB9.out.grown hgV (HB9.out.size_le HXB.out) (fun j e => by cases e; exact HNO.out.2.2)); clear hV hgV))
          go_roundw
          case rel =>
            have REL := Lib.hid (show ∃ k' : Nat, k' ≤ 255 ∧ Value.int .i64 ((0 : Int)) = .int .i64 (254 - (k' : Int)) ∧ Row V4 ob 53 (pw 235 x k').l ∧ Row V4 xb 53 x.l ∧ Rg.Blk V4 rb 53 Z5 ∧ Below xb w V4 from ⟨k + 1, hk5, congrArg _ (by omega), by rw [HST.out]; exact HO.out, HR.out, HZ.out, HB.out⟩)
            first
              | exact REL.out
              | ((repeat apply Exists.intro); refine ⟨?_, rfl⟩; exact REL.out)
          case measure => (first | (simp [intOf]; done) | (simp [intOf]; omega))
        · have HST := Lib.hid (HYS.out (by rw [h9]; decide))
          have hat : (254 : Int) - (k : Int) = 0 := by omega
          rw [hat]
          clear hat HYS HNS
          go_wp2_with (first
            | ((with_reducible refine gate_ ?_); refine Cv.load_cells rfl 53 _ rfl ob 0 rfl (u64s (sq y).l) _ (fun j v hv => by rw [Nat.zero_add]; exact Rg.Blk.cell (row_blk HO.out) j hv) Tryz.underlying53 rfl (by rw [u64s_size]; kernel_rfl) ?_; skip)
            | ((with_reducible refine gate_ ?_); refine Cv.load_cells rfl 53 _ rfl xb 0 rfl (u64s x.l) _ (fun j v hv => by rw [Nat.zero_add]; exact Rg.Blk.cell (row_blk HR.out) j hv) Tryz.underlying53 rfl (by rw [u64s_size]; kernel_rfl) ?_; skip)
            | (go_at_call 24; refine (Mul_any _ (sq y) x (mul_ok y y) HOX.out).mono ?_; rintro e w9 ⟨rfl, hb9⟩; skip; have HO9 := Lib.hid (HO.out.below hb9 HO.out.lt); have HR9 := Lib.hid (HR.out.below hb9 HR.out.lt); have HZ9 := Lib.hid (HZ.out.below hb9 HZ.out.lt); have HB9 := Lib.hid (HB.out.trans (hb9.mono (HB.out.size_le HXB.out))); clear hb9 HO HR HZ HB)
            | ((with_reducible refine gate_ ?_); refine Cv.store_blk rfl 53 _ _ rfl ob (u64s (mul (sq y) x).l) (u64s (sq y).l) 53 rfl rfl (row_blk HO9.out) (by rw [u64s_size]; kernel_rfl) (by rw [u64s_size]; first | rfl | rw [u64s_size]) (u64s_one _) ?_; intro V4 hV hgV; have HO := Lib.hid (show Row V4 ob 53 (mul (sq y) x).l from hV); have HR := Lib.hid (row_other HR9.out hgV HNO.out.1); have HZ := Lib.hid (blk_other HZ9.out hgV HNO.out.2.1); have HB := Lib.hid (HB9.out.grown hgV (HB9.out.size_le HXB.out) (fun j e => by cases e; exact HNO.out.2.2)); clear hV hgV))
          go_roundw
          case rel =>
            have REL := Lib.hid (show ∃ k' : Nat, k' ≤ 255 ∧ Value.int .i64 ((-1 : Int)) = .int .i64 (254 - (k' : Int)) ∧ Row V4 ob 53 (pw 235 x k').l ∧ Row V4 xb 53 x.l ∧ Rg.Blk V4 rb 53 Z5 ∧ Below xb w V4 from ⟨k + 1, hk5, congrArg _ (by omega), by rw [HST.out]; exact HO.out, HR.out, HZ.out, HB.out⟩)
            first
              | exact REL.out
              | ((repeat apply Exists.intro); refine ⟨?_, rfl⟩; exact REL.out)
          case measure => (first | (simp [intOf]; done) | (simp [intOf]; omega))
    · obtain rfl : k = 255 := by omega
      have hd : decide ((0 : Int) ≤ 254 - ((255 : Nat) : Int)) = false := by simp
      go_wp2_with (first
        | ((with_reducible refine gate_ ?_); refine Cv.load_cells rfl 53 _ rfl ob 0 rfl (u64s (pw 235 x 255).l) _ (fun j v hv => by rw [Nat.zero_add]; exact Rg.Blk.cell (row_blk HO.out) j hv) Tryz.underlying53 rfl (by rw [u64s_size]; kernel_rfl) ?_; skip)
        | ((with_reducible refine gate_ ?_); refine Cv.store_blk rfl 53 _ _ rfl rb (u64s (pw 235 x 255).l) Z5 53 rfl rfl HZ.out (by rw [u64s_size]; kernel_rfl) (by rw [u64s_size]; first | rfl | rw [u64s_size]) (u64s_one _) ?_; intro V3 hV hgV; have HZZ := Lib.hid hV; have HBZ := Lib.hid (HB.out.grown hgV (HB.out.size_le HXB.out) (fun j e => by cases e; exact HNE.out.2)); clear hV hgV))
      refine bodyPost_ret (v := .agg (u64s (pw 235 x 255).l))
        (results_cell_row Tryz.results47 _ _ rb 53 _ (0, 0) _ rfl HZZ.out Tryz.underlying53 rfl (by rw [u64s_size]; kernel_rfl)) rfl ?_
      exact ⟨rfl, HXB.out ▸ HBZ.out⟩
end Go.Proofs.YtfaeigbfnjkojaaGreatDoor.Kx
namespace Go.Proofs.YtfaeigbfnjkojaaGreatDoor.Kx
open Go.RowKit Go.Proofs.YtfaeigbfnjkojaaGreatDoor.Cl
def inv (x : E) : E := pw 235 x 255
theorem inv_ok (x : E) : (inv x).ok := pw_ok 235 x 255
set_option maxRecDepth 20000 in
set_option maxHeartbeats 2000000 in
theorem Invert_any (w : World) (x : E) (hx : x.ok) : Calls Tryz.prog 25 #[.agg (u64s x.l)] w fun e w' => e = .returned (.agg (u64s (inv x).l)) ∧ Below w.heap.size w w' := by
  have HPW := Lib.hid (fun W => show Calls Tryz.prog 47 #[.agg (u64s x.l), .int .u64 21, .int .i64 0] W fun e w' => e = .returned (.agg (u64s (inv x).l)) ∧ Below W.heap.size W w' from power_any W x hx)
  clear hx
  generalize inv x = y at *
  go_enter Tryz.func25, Tryz.ntmps25
  go_upto_region 1 with ((with_reducible refine gate_ ?_); refine Rg.box_fresh rfl 53 _ rfl (u64s x.l) rfl ?_; intro X hX hbX hnX; have HX := Lib.hid hX; have HBX := Lib.hid hbX; have HNX := Lib.hid hnX; clear hX hbX hnX)
  obtain ⟨xb, hxb⟩ : ∃ xb, w.heap.size = xb := ⟨_, rfl⟩
  obtain ⟨rb, hrb⟩ : ∃ rb, X.heap.size = rb := ⟨_, rfl⟩
  have HR := Lib.hid (show Row (X.alloc (.cells Z5 53)) xb 53 x.l from (hxb ▸ HX.out).alloc _)
  have HZ := Lib.hid (show Rg.Blk (X.alloc (.cells Z5 53)) rb 53 Z5 from Rg.Blk.newAt hrb.symm _ _)
  have HB := Lib.hid (show Below xb w (X.alloc (.cells Z5 53)) from hxb ▸ HBX.out.alloc HBX.out.size _)
  have HNE := Lib.hid (show xb ≠ rb ∧ xb ≤ rb from by have h1 := HX.out.lt; constructor <;> omega)
  have HXB := Lib.hid hxb
  rw [hxb, hrb, show (#[.int .u64 0, .int .u64 0, .int .u64 0, .int .u64 0, .int .u64 0] : Array Value) = Z5 from rfl]
  generalize X.alloc (.cells Z5 53) = Y at *
  clear HX HBX HNX hxb hrb
  go_wp2_with (first
    | ((with_reducible refine gate_ ?_); refine Cv.load_cells rfl 53 _ rfl xb 0 rfl (u64s x.l) _ (fun j v hv => by rw [Nat.zero_add]; exact Rg.Blk.cell (row_blk HR.out) j hv) Tryz.underlying53 rfl (by rw [u64s_size]; kernel_rfl) ?_; skip)
    | (go_at_call 47; refine (HPW.out _).mono ?_; rintro e w9 ⟨rfl, hb9⟩; skip; have HZ9 := Lib.hid (HZ.out.below hb9 HZ.out.lt); have HB9 := Lib.hid (HB.out.trans (hb9.mono (HB.out.size_le HXB.out))); clear hb9)
    | ((with_reducible refine gate_ ?_); refine Cv.store_blk rfl 53 _ _ rfl rb (u64s y.l) Z5 53 rfl rfl HZ9.out (by rw [u64s_size]; kernel_rfl) (by rw [u64s_size]; first | rfl | rw [u64s_size]) (u64s_one _) ?_; intro V3 hV hgV; have HZZ := Lib.hid hV; have HBZ := Lib.hid (HB9.out.grown hgV (HB9.out.size_le HXB.out) (fun j e => by cases e; exact HNE.out.2)); clear hV hgV))
  refine bodyPost_ret (v := .agg (u64s (y).l))
    (results_cell_row Tryz.results25 _ _ rb 53 _ (0, 0) _ rfl HZZ.out Tryz.underlying53 rfl (by rw [u64s_size]; kernel_rfl)) rfl ?_
  exact ⟨rfl, HXB.out ▸ HBZ.out⟩
end Go.Proofs.YtfaeigbfnjkojaaGreatDoor.Kx
