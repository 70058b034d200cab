/- The field's Mul. -/
import Derived.Test.YtfaeigbfnjkojaaGreatDoorKxF
import Derived.Test.YtfaeigbfnjkojaaGreatDoorIdx
import Derived.Test.YtfaeigbfnjkojaaGreatDoorKxM
set_option linter.unusedVariables false
set_option linter.unusedSimpArgs false
namespace Go.Proofs.YtfaeigbfnjkojaaGreatDoor.Kx
open Go.RowKit Go.Proofs.YtfaeigbfnjkojaaGreatDoor.Cl
def Z10 : Array Value := #[.int .u64 0, .int .u64 0, .int .u64 0, .int .u64 0, .int .u64 0, .int .u64 0, .int .u64 0, .int .u64 0, .int .u64 0, .int .u64 0]
theorem u64s_at (x : E) {i : Nat} (h : i < 5) : (u64s x.l)[i]? = some (.int .u64 (nth x.l i : Nat)) := by
  match i, h with
  | 0, _ => rfl
  | 1, _ => rfl
  | 2, _ => rfl
  | 3, _ => rfl
  | 4, _ => rfl
theorem _root_.Go.Proofs.YtfaeigbfnjkojaaGreatDoor.Cl.Row.alloc {w : World} {b T : Nat} {xs : List Nat} (h : Row w b T xs) (o : Obj) : Row (w.alloc o) b T xs := Rg.Blk.alloc (row_blk h) o
theorem row_cell_of {w : World} {b T j v : Nat} {l : List Nat} (h : Row w b T l) (hj : j < l.length) (hv : nth l j = v) : w.cell? ⟨b, j, none⟩ = some (.int .u64 (v : Nat)) := hv ▸ h.cell j hj
theorem it_rd_succ (T : List Nat) (k : Nat) (s : Nat × List Nat) : it (rd T) (k + 1) s = ((nth T k + (it (rd T) k s).1) % M2 / W % M, (it (rd T) k s).2.set k ((nth T k + (it (rd T) k s).1) % M2 % W)) := rfl
theorem it_rd_lt (T : List Nat) : ∀ (n j : Nat), nth (it (rd T) n (0, [0, 0, 0, 0, 0])).2 j < W
  | 0, j => by
    match j with
    | 0 => exact (show (0 : Nat) < W by decide)
    | 1 => exact (show (0 : Nat) < W by decide)
    | 2 => exact (show (0 : Nat) < W by decide)
    | 3 => exact (show (0 : Nat) < W by decide)
    | 4 => exact (show (0 : Nat) < W by decide)
    | j + 5 => simp [it, nth, W]
  | n + 1, j => by
    rw [it_rd_succ]
    by_cases h : n = j
    · subst h
      by_cases hl : n < (it (rd T) n (0, [0, 0, 0, 0, 0])).2.length
      · rw [nth_set hl]; exact mod_lt_W _
      · rw [List.set_eq_of_length_le (by omega)]; exact it_rd_lt T n n
    · rw [nth_set_ne h]; exact it_rd_lt T n j
theorem tot_lt {q o : Nat} (hq : q < M) (ho : o < M) : (q * 19 + o) % M2 = q * 19 + o := by unfold M M2 at *; omega
theorem div_lt {q : Nat} (hq : q < M) : q * 19 / M < M := by unfold M at *; omega
theorem set01 {l : List Nat} (h : l.length = 5) (a b : Nat) : (l.set 0 a).set 1 b = [a, b, nth l 2, nth l 3, nth l 4] := by
  match l, h with
  | [u0, u1, u2, u3, u4], _ => rfl
theorem sumadd2 (w : World) (b T j : Nat) (ts : List Nat) (hj : j < ts.length) (a c : Nat) (ha : a < M) (hc : c < M) (hB : Row w b T (fl ts)) : Calls Tryz.prog 43 #[.pointer (some ⟨b, j * 2, none⟩), .int .u64 a, .int .u64 c] w fun e w' => (∃ v, e = .returned v) ∧ Row w' b T (fl (ts.set j (nth ts j + a * c))) ∧ w.grownBy w' (some b) := by
  rw [Nat.mul_comm j 2]
  exact sumadd_any w b T j ts hj a c ha hc hB
theorem it_mulT_succ (xs ys : List Nat) (i k : Nat) (ts : List Nat) : it (mulT xs ys i) (k + 1) ts = if i + k < 5 then (it (mulT xs ys i) k ts).set (i + k) (nth (it (mulT xs ys i) k ts) (i + k) + nth xs i * nth ys k) else (it (mulT xs ys i) k ts).set (i + k - 5) (nth (it (mulT xs ys i) k ts) (i + k - 5) + nth xs i * 19 % M * nth ys k) := rfl
set_option maxRecDepth 20000 in
set_option maxHeartbeats 2000000 in
theorem Mul_any (w : World) (x y : E) (hx : x.ok) (hy : y.ok) : Calls Tryz.prog 24 #[.agg (u64s x.l), .agg (u64s y.l)] w fun e w' => e = .returned (.agg (u64s (mul x y).l)) ∧ Below w.heap.size w w' := by
  have HOX := Lib.hid hx
  have HOY := Lib.hid hy
  clear hx hy
  go_enter Tryz.func24, Tryz.ntmps24
  have tok1 := True.intro
  go_upto_region 1 with (first
    | (have _t := tok1; (with_reducible refine gate_ ?_); refine Rg.box_fresh rfl 53 _ rfl (u64s x.l) rfl ?_; intro X hX hbX hnX; have HX := Lib.hid hX; have HBX := Lib.hid hbX; have HNX := Lib.hid hnX; clear hX hbX hnX; have tok2 := True.intro; clear _t tok1)
    | (have _t := tok2; (with_reducible refine gate_ ?_); refine Rg.box_fresh rfl 53 _ rfl (u64s y.l) rfl ?_; intro X2 hX hbX hnX; have HY2 := Lib.hid hX; have HBY := Lib.hid hbX; have HNY := Lib.hid hnX; clear hX hbX hnX; clear _t tok2))
  obtain ⟨xb, hxb⟩ : ∃ xb, w.heap.size = xb := ⟨_, rfl⟩
  obtain ⟨yb, hyb⟩ : ∃ yb, X.heap.size = yb := ⟨_, rfl⟩
  obtain ⟨rb, hrb⟩ : ∃ rb, X2.heap.size = rb := ⟨_, rfl⟩
  have HR := Lib.hid (show Row (X2.alloc (.cells Z5 53)) xb 53 x.l from ((hxb ▸ HX.out).below HBY.out (hxb ▸ HX.out.lt)).alloc _)
  have HY := Lib.hid (show Row (X2.alloc (.cells Z5 53)) yb 53 y.l from (hyb ▸ HY2.out).alloc _)
  have HZ := Lib.hid (show Rg.Blk (X2.alloc (.cells Z5 53)) rb 53 Z5 from Rg.Blk.newAt hrb.symm _ _)
  have HB := Lib.hid (show Below xb w (X2.alloc (.cells Z5 53)) from hxb ▸ (HBX.out.trans (HBY.out.mono HBX.out.size)).alloc (Nat.le_trans HBX.out.size HBY.out.size) _)
  have HNE := Lib.hid (show xb ≠ yb ∧ xb ≠ rb ∧ xb ≤ rb from by have h1 := HNX.out; have h2 := HNY.out; refine ⟨?_, ?_, ?_⟩ <;> omega)
  have HN2 := Lib.hid (show yb ≠ rb ∧ xb ≤ yb from by have h1 := HNX.out; have h2 := HNY.out; refine ⟨?_, ?_⟩ <;> omega)
  have HXB := Lib.hid hxb
  rw [hxb, hyb, hrb, show (#[.int .u64 0, .int .u64 0, .int .u64 0, .int .u64 0, .int .u64 0] : Array Value) = Z5 from rfl]
  generalize X2.alloc (.cells Z5 53) = Z at *
  clear HX HBX HY2 HBY HNX HNY hxb hyb hrb
  obtain ⟨sb, hsb⟩ : ∃ sb, Z.heap.size = sb := ⟨_, rfl⟩
  have HXS := Lib.hid (show xb < sb ∧ yb < sb ∧ rb < sb from by rw [← hsb]; exact ⟨HR.out.lt, HY.out.lt, HZ.out.lt⟩)
  go_upto_region 2 with fail
  have HS := Lib.hid (show Row (Z.alloc (.cells Z10 87)) sb 87 (fl [0, 0, 0, 0, 0]) from Rg.Blk.newAt hsb.symm _ _)
  have HRs := Lib.hid (show Row (Z.alloc (.cells Z10 87)) xb 53 x.l from HR.out.alloc _)
  have HYs := Lib.hid (show Row (Z.alloc (.cells Z10 87)) yb 53 y.l from HY.out.alloc _)
  have HZs := Lib.hid (show Rg.Blk (Z.alloc (.cells Z10 87)) rb 53 Z5 from HZ.out.alloc _)
  have HBs := Lib.hid (show Below xb w (Z.alloc (.cells Z10 87)) from HB.out.alloc (HB.out.size_le HXB.out) _)
  rw [show (#[.int .u64 0, .int .u64 0, .int .u64 0, .int .u64 0, .int .u64 0, .int .u64 0, .int .u64 0, .int .u64 0, .int .u64 0, .int .u64 0] : Array Value) = Z10 from rfl]
  clear HR HY HZ HB
  generalize Z.alloc (.cells Z10 87) = Y at *
  clear hsb
  go_upto_region 3 with ((with_reducible refine gate_ ?_); refine Cv.load_cells rfl 51 _ rfl xb 0 rfl (u64s x.l) _ (fun j v hv => by rw [Nat.zero_add]; exact Rg.Blk.cell (row_blk HRs.out) j hv) Tryz.underlying51 rfl (by rw [u64s_size]; kernel_rfl) ?_; skip)
  clear HRs
  go_loopw [19] (fun i wr => ∃ k : Nat, k ≤ 5 ∧ i = .int .i64 k ∧ Row wr sb 87 (fl (it (mulR x.l y.l) k [0, 0, 0, 0, 0])) ∧ Row wr yb 53 y.l ∧ Rg.Blk wr rb 53 Z5 ∧ Below xb w wr) (fun i _ => 5 - (intOf i).toNat)
  case atStart => exact ⟨0, Nat.zero_le _, rfl, HS.out, HYs.out, HZs.out, HBs.out⟩
  case round =>
    obtain ⟨i, hi, rfl, hs, hy, hz, hb⟩ := hrel
    clear HS HYs HZs HBs
    have HS := Lib.hid hs
    have HY := Lib.hid hy
    have HZ := Lib.hid hz
    have HB := Lib.hid hb
    clear hs hy hz hb
    by_cases hi5 : i < 5
    · have hd : decide (i < 5) = true := by simp; exact hi5
      have hii : (i : Int) < 5 := by omega
      have hi0 : (0 : Int) ≤ i := by omega
      obtain ⟨n1, hn1⟩ : ∃ n1, nth x.l i = n1 := ⟨_, rfl⟩
      have HN1 := Lib.hid hn1
      have HL1 := Lib.hid (show n1 < M from hn1 ▸ HOX.out i)
      have HN5 := Lib.hid (show sb ≠ yb ∧ sb ≠ rb ∧ xb ≤ sb from by have h := HXS.out; refine ⟨?_, ?_, ?_⟩ <;> omega)
      have hx1 := index_words (P := Tryz.prog) 51 50 5 x.l i Tryz.underlying51 Tryz.underlying50 (by kernel_rfl) rfl hi5 wr
      rw [hn1] at hx1
      obtain ⟨Ti, hTi⟩ : ∃ Ti, it (mulR x.l y.l) i [0, 0, 0, 0, 0] = Ti := ⟨_, rfl⟩
      have HTI := Lib.hid hTi
      have HTL := Lib.hid (show Ti.length = 5 by rw [← hTi, it_mulR_len]; rfl)
      rw [hTi] at HS
      clear hn1 hTi
      go_upto_region 6 with ((with_reducible refine gate_ ?_); refine Cv.load_cells rfl 51 _ rfl yb 0 rfl (u64s y.l) _ (fun j v hv => by rw [Nat.zero_add]; exact Rg.Blk.cell (row_blk HY.out) j hv) Tryz.underlying51 rfl (by rw [u64s_size]; kernel_rfl) ?_; skip)
      clear hx1
      go_loopw [25] (fun c wr => ∃ k : Nat, k ≤ 5 ∧ c = .int .i64 k ∧ Row wr sb 87 (fl (it (mulT x.l y.l i) k Ti)) ∧ Row wr yb 53 y.l ∧ Rg.Blk wr rb 53 Z5 ∧ Below xb w wr) (fun c _ => 5 - (intOf c).toNat)
      case atStart => exact ⟨0, Nat.zero_le _, rfl, HS.out, HY.out, HZ.out, HB.out⟩
      case round =>
        obtain ⟨k, hk, rfl, hs, hy, hz, hb⟩ := hrel
        clear HS HY HZ HB
        have HS := Lib.hid hs
        have HY := Lib.hid hy
        have HZ := Lib.hid hz
        have HB := Lib.hid hb
        clear hs hy hz hb
        by_cases hk5 : k < 5
        · have hdk : decide (k < 5) = true := by simp; exact hk5
          have hki : (k : Int) < 5 := by omega
          have hk0 : (0 : Int) ≤ k := by omega
          obtain ⟨n2, hn2⟩ : ∃ n2, nth y.l k = n2 := ⟨_, rfl⟩
          have HN2y := Lib.hid hn2
          have HL2 := Lib.hid (show n2 < M from hn2 ▸ HOY.out k)
          have hy1 := index_words (P := Tryz.prog) 51 50 5 y.l k Tryz.underlying51 Tryz.underlying50 (by kernel_rfl) rfl hk5 wr
          rw [hn2] at hy1
          obtain ⟨Tk, hTk⟩ : ∃ Tk, it (mulT x.l y.l i) k Ti = Tk := ⟨_, rfl⟩
          have hst := it_mulT_succ x.l y.l i k Ti
          rw [hTk, HN1.out, hn2] at hst
          have HST := Lib.hid hst
          have HKL := Lib.hid (show Tk.length = 5 by rw [← hTk, it_mulT_len]; exact HTL.out)
          rw [hTk] at HS
          clear hn2 hTk hst
          by_cases hik : i + k < 5
          · have hdik : decide ((i : Int) + k < 5) = true := by simp; omega
            have hiki : (i : Int) + k < 5 := by omega
            have hik0 : (0 : Int) ≤ (i : Int) + k := by omega
            have HIK := Lib.hid hik
            go_wp2_with (go_at_call 43; refine (sumadd2 _ sb 87 (i + k) Tk (by rw [HKL.out]; omega) n1 n2 HL1.out HL2.out HS.out).mono ?_; rintro e w8 ⟨⟨v8, rfl⟩, hs8, hg8⟩; skip; have HS8 := Lib.hid hs8; have HY8 := Lib.hid (row_other HY.out hg8 HN5.out.1); have HZ8 := Lib.hid (blk_other HZ.out hg8 HN5.out.2.1); have HB8 := Lib.hid (HB.out.grown hg8 (HB.out.size_le HXB.out) (fun j e => by cases e; exact HN5.out.2.2)); clear hs8 hg8)
            go_roundw
            case rel =>
              have REL := Lib.hid (show ∃ k' : Nat, k' ≤ 5 ∧ Value.int .i64 ((k : Int) + 1) = .int .i64 k' ∧ Row w8 sb 87 (fl (it (mulT x.l y.l i) k' Ti)) ∧ Row w8 yb 53 y.l ∧ Rg.Blk w8 rb 53 Z5 ∧ Below xb w w8 from ⟨k + 1, hk5, rfl, by rw [HST.out, if_pos HIK.out]; exact HS8.out, HY8.out, HZ8.out, HB8.out⟩)
              first
                | exact REL.out
                | ((repeat apply Exists.intro); refine ⟨?_, rfl⟩; exact REL.out)
            case measure => (first | (simp [intOf]; done) | (simp [intOf]; omega))
          · have hdik : decide ((i : Int) + k < 5) = false := by simp; omega
            have hiki : ¬ (i : Int) + k < 5 := by omega
            have hik0 : (0 : Int) ≤ (i : Int) + k - 5 := by omega
            have hik1 : (i : Int) + k - 5 < 5 := by omega
            have hikn : ((i : Int) + k - 5).toNat = i + k - 5 := by omega
            have e19 : IntKind.u64.wrap ((n1 : Int) * 19) = ((n1 * 19 % M : Nat) : Int) := wrap_mul n1 19
            have HIK := Lib.hid hik
            go_wp2_with (go_at_call 43; refine (sumadd2 _ sb 87 (i + k - 5) Tk (by rw [HKL.out]; omega) (n1 * 19 % M) n2 (mod_lt_M _) HL2.out HS.out).mono ?_; rintro e w8 ⟨⟨v8, rfl⟩, hs8, hg8⟩; skip; have HS8 := Lib.hid hs8; have HY8 := Lib.hid (row_other HY.out hg8 HN5.out.1); have HZ8 := Lib.hid (blk_other HZ.out hg8 HN5.out.2.1); have HB8 := Lib.hid (HB.out.grown hg8 (HB.out.size_le HXB.out) (fun j e => by cases e; exact HN5.out.2.2)); clear hs8 hg8)
            go_roundw
            case rel =>
              have REL := Lib.hid (show ∃ k' : Nat, k' ≤ 5 ∧ Value.int .i64 ((k : Int) + 1) = .int .i64 k' ∧ Row w8 sb 87 (fl (it (mulT x.l y.l i) k' Ti)) ∧ Row w8 yb 53 y.l ∧ Rg.Blk w8 rb 53 Z5 ∧ Below xb w w8 from ⟨k + 1, hk5, rfl, by rw [HST.out, if_neg HIK.out]; exact HS8.out, HY8.out, HZ8.out, HB8.out⟩)
              first
                | exact REL.out
                | ((repeat apply Exists.intro); refine ⟨?_, rfl⟩; exact REL.out)
            case measure => (first | (simp [intOf]; done) | (simp [intOf]; omega))
        · obtain rfl : k = 5 := by omega
          have hdk : decide ((5 : Nat) < 5) = false := by simp
          have hmr : it (mulT x.l y.l i) 5 Ti = it (mulR x.l y.l) (i + 1) [0, 0, 0, 0, 0] := by rw [← HTI.out]; rfl
          rw [hmr] at HS
          clear hmr
          go_wp2
          go_roundw
          case rel =>
            have REL := Lib.hid (show ∃ k' : Nat, k' ≤ 5 ∧ Value.int .i64 ((i : Int) + 1) = .int .i64 k' ∧ Row wr sb 87 (fl (it (mulR x.l y.l) k' [0, 0, 0, 0, 0])) ∧ Row wr yb 53 y.l ∧ Rg.Blk wr rb 53 Z5 ∧ Below xb w wr from ⟨i + 1, hi5, rfl, HS.out, HY.out, HZ.out, HB.out⟩)
            first
              | exact REL.out
              | ((repeat apply Exists.intro); refine ⟨?_, rfl⟩; exact REL.out)
          case measure => (first | (simp [intOf]; done) | (simp [intOf]; omega))
    · obtain rfl : i = 5 := by omega
      have hd : decide ((5 : Nat) < 5) = false := by simp
      have hTe : it (mulR x.l y.l) 5 [0, 0, 0, 0, 0] = mulS x.l y.l := rfl
      rw [hTe] at HS
      clear hTe
      obtain ⟨T, hT⟩ : ∃ T, mulS x.l y.l = T := ⟨_, rfl⟩
      have HTL := Lib.hid (show T.length = 5 by rw [← hT]; unfold mulS; rw [it_mulR_len]; rfl)
      have HTE := Lib.hid hT
      rw [hT] at HS
      clear hT HY
      have HN6 := Lib.hid (show sb ≠ rb ∧ xb ≤ sb ∧ rb < sb from by have h := HXS.out; refine ⟨?_, ?_, ?_⟩ <;> omega)
      go_upto_region 14 with fail
      obtain ⟨ob, hob⟩ : ∃ ob, wr.heap.size = ob := ⟨_, rfl⟩
      have HO := Lib.hid (show Row (wr.alloc (.cells Z5 53)) ob 53 [0, 0, 0, 0, 0] from Rg.Blk.newAt hob.symm _ _)
      have HSo := Lib.hid (show Row (wr.alloc (.cells Z5 53)) sb 87 (fl T) from HS.out.alloc _)
      have HZo := Lib.hid (show Rg.Blk (wr.alloc (.cells Z5 53)) rb 53 Z5 from HZ.out.alloc _)
      have HBo := Lib.hid (show Below xb w (wr.alloc (.cells Z5 53)) from HB.out.alloc (HB.out.size_le HXB.out) _)
      have HN7 := Lib.hid (show ob ≠ sb ∧ ob ≠ rb ∧ xb ≤ ob ∧ xb ≤ sb ∧ sb ≠ ob ∧ sb ≠ rb ∧ xb ≤ rb from by have h1 := HS.out.lt; have h2 := HZ.out.lt; have h3 := HN6.out; have h4 := HNE.out; refine ⟨?_, ?_, ?_, ?_, ?_, ?_, ?_⟩ <;> omega)
      rw [hob, show (#[.int .u64 0, .int .u64 0, .int .u64 0, .int .u64 0, .int .u64 0] : Array Value) = Z5 from rfl]
      clear HS HZ HB
      generalize wr.alloc (.cells Z5 53) = Y3 at *
      clear hob
      go_upto_region 16 with fail
      go_loopw [11, 51] (fun c i wr => ∃ (k : Nat) (L : List Nat), k ≤ 5 ∧ i = .int .i64 k ∧ c = .int .u64 ((it (rd T) k (0, [0, 0, 0, 0, 0])).1 : Nat) ∧ Row wr ob 53 (it (rd T) k (0, [0, 0, 0, 0, 0])).2 ∧ Row wr sb 87 L ∧ L.length = 10 ∧ (∀ j, k * 2 ≤ j → nth L j = nth (fl T) j) ∧ Rg.Blk wr rb 53 Z5 ∧ Below xb w wr) (fun _ i _ => 5 - (intOf i).toNat)
      case atStart => exact ⟨0, fl T, Nat.zero_le _, rfl, rfl, HO.out, HSo.out, by rw [fl_len, HTL.out], fun j _ => rfl, HZo.out, HBo.out⟩
      case round =>
        obtain ⟨k, L, hk, rfl, rfl, ho, hs, hL, hrest, hz, hb⟩ := hrel
        clear HO HSo HZo HBo
        have HO := Lib.hid ho
        have HS := Lib.hid hs
        have HLL := Lib.hid hL
        have HRE := Lib.hid hrest
        have HZ := Lib.hid hz
        have HB := Lib.hid hb
        have HOL := Lib.hid (show (it (rd T) k (0, [0, 0, 0, 0, 0])).2.length = 5 by rw [it_rd_len]; rfl)
        have HQL := Lib.hid (it_rd_c T k)
        clear ho hs hL hrest hz hb
        by_cases hk5 : k < 5
        · have hdk : decide (k < 5) = true := by simp; exact hk5
          have hki : (k : Int) < 5 := by omega
          have hk0 : (0 : Int) ≤ k := by omega
          have hst := it_rd_succ T k (0, [0, 0, 0, 0, 0])
          obtain ⟨q, hq⟩ : ∃ q, (it (rd T) k (0, [0, 0, 0, 0, 0])).1 = q := ⟨_, rfl⟩
          obtain ⟨R, hR⟩ : ∃ R, (it (rd T) k (0, [0, 0, 0, 0, 0])).2 = R := ⟨_, rfl⟩
          obtain ⟨t, ht⟩ : ∃ t, nth T k = t := ⟨_, rfl⟩
          rw [hq, hR, ht] at hst
          rw [hq] at HQL ⊢
          rw [hR] at HO HOL
          have HLK := Lib.hid (show k * 2 < L.length ∧ k * 2 + 1 < L.length by rw [HLL.out]; omega)
          have hl0 : nth L (k * 2) = t % M := by rw [HRE.out _ (Nat.le_refl _), Nat.mul_comm, fl_lo, ht]
          have hh0 : nth L (k * 2 + 1) = t / M % M := by rw [HRE.out _ (Nat.le_succ _), Nat.mul_comm, fl_hi, ht]
          have hc := two_c t q HQL.out
          have hm := two_m t q
          obtain ⟨l0, el0⟩ : ∃ l0, t % M = l0 := ⟨_, rfl⟩
          obtain ⟨h0, eh0⟩ : ∃ h0, t / M % M = h0 := ⟨_, rfl⟩
          have HL0 := Lib.hid (show l0 < M from el0 ▸ mod_lt_M _)
          rw [el0] at hl0
          rw [eh0] at hh0
          rw [el0, eh0] at hc
          rw [el0] at hm
          obtain ⟨ov, hov⟩ : ∃ ov, (l0 + q) / M = ov := ⟨_, rfl⟩
          obtain ⟨v1, hv1⟩ : ∃ v1, (l0 + q) % M = v1 := ⟨_, rfl⟩
          have HA0 := Lib.hid (fun W => add64_0 l0 q W)
          rw [hov, hv1] at HA0
          rw [hov, hv1] at hc
          rw [hv1] at hm
          obtain ⟨v2, hv2⟩ : ∃ v2, (h0 + ov) % M = v2 := ⟨_, rfl⟩
          have e2 : IntKind.u64.wrap ((h0 : Int) + (ov : Int)) = (v2 : Int) := by rw [wrap_add, hv2]
          rw [hv2] at hc
          have HV := Lib.hid (show v1 < M ∧ v2 < M from ⟨hv1 ▸ mod_lt_M _, hv2 ▸ mod_lt_M _⟩)
          rw [← hc, ← hm] at hst
          have e3 : IntKind.u64.wrap ((v2 : Int) * 8192) = ((v2 * 8192 % M : Nat) : Int) := wrap_shl v2
          obtain ⟨p, hp⟩ : ∃ p, v2 * 8192 % M = p := ⟨_, rfl⟩
          rw [hp] at e3 hst
          have e4 : bits .or .u64 (p : Int) ((v1 : Int) / 2251799813685248) = ((p ||| v1 / W : Nat) : Int) := wrap_or p (v1 / W) (hp ▸ mod_lt_M _) (Nat.lt_of_le_of_lt (Nat.div_le_self _ _) HV.out.1)
          have e5 : bits .and .u64 (v1 : Int) 2251799813685247 = ((v1 % W : Nat) : Int) := and_mask v1 HV.out.1
          have HST := Lib.hid hst
          have c0 := row_cell_of HS.out HLK.out.1 hl0
          have HH0 := Lib.hid hh0
          have HOK := Lib.hid (show k < R.length by rw [HOL.out]; exact hk5)
          clear hst hq hR ht hl0 hh0 hc hm el0 eh0 hov hv1 hv2 hp
          have tok1 := True.intro
          go_upto_region 21 with (first
            | (simp only [HA0.out])
            | (have _t := tok1; (with_reducible refine gate_ ?_); refine store_cell rfl 50 _ _ rfl (b := sb) (j := k * 2) (v := v1) rfl rfl Tryz.underlying50 (by kernel_rfl) HS.out HLK.out.1 ?_; intro V hV hgV; have HS1 := Lib.hid hV; have HO1 := Lib.hid (row_other HO.out hgV HN7.out.2.2.2.2.1); have HZ1 := Lib.hid (blk_other HZ.out hgV HN7.out.2.2.2.2.2.1); have HB1 := Lib.hid (HB.out.grown hgV (HB.out.size_le HXB.out) (fun j e => by cases e; exact HN7.out.2.2.2.1)); have c1 := row_cell_of (j := k * 2 + 1) HS1.out (by rw [List.length_set]; exact HLK.out.2) ((nth_set_ne (by omega)).trans HH0.out); clear hV hgV c0; have tok2 := True.intro; clear _t tok1)
            | (have _t := tok2; (with_reducible refine gate_ ?_); refine store_cell rfl 50 _ _ rfl (b := sb) (j := k * 2 + 1) (v := v2) rfl rfl Tryz.underlying50 (by kernel_rfl) HS1.out (by rw [List.length_set]; exact HLK.out.2) ?_; intro V2 hV hgV; have HS2 := Lib.hid hV; have HO2 := Lib.hid (row_other HO1.out hgV HN7.out.2.2.2.2.1); have HZ2 := Lib.hid (blk_other HZ1.out hgV HN7.out.2.2.2.2.2.1); have HB2 := Lib.hid (HB1.out.grown hgV (HB1.out.size_le HXB.out) (fun j e => by cases e; exact HN7.out.2.2.2.1)); clear hV hgV c1 _t tok2))
          have HLK2 := Lib.hid (show k * 2 < ((L.set (k * 2) v1).set (k * 2 + 1) v2).length ∧ k * 2 + 1 < ((L.set (k * 2) v1).set (k * 2 + 1) v2).length by rw [List.length_set, List.length_set]; exact HLK.out)
          have HNV := Lib.hid (show nth ((L.set (k * 2) v1).set (k * 2 + 1) v2) (k * 2) = v1 ∧ nth ((L.set (k * 2) v1).set (k * 2 + 1) v2) (k * 2 + 1) = v2 from ⟨(nth_set_ne (by omega)).trans (nth_set HLK.out.1 v1), nth_set (by rw [List.length_set]; exact HLK.out.2) v2⟩)
          have HRE2 := Lib.hid (show ((L.set (k * 2) v1).set (k * 2 + 1) v2).length = 10 ∧ ∀ j, (k + 1) * 2 ≤ j → nth ((L.set (k * 2) v1).set (k * 2 + 1) v2) j = nth (fl T) j from ⟨by rw [List.length_set, List.length_set]; exact HLL.out, fun j hj => ((nth_set_ne (by omega)).trans (nth_set_ne (by omega))).trans (HRE.out j (by omega))⟩)
          generalize (L.set (k * 2) v1).set (k * 2 + 1) v2 = L2 at *
          refine RL.start (fun W => Below V2.heap.size V2 W) (by kernel_rfl) (Below.drew (Below.refl _ _)) ?_
          refine' RL.takeV (i := 0) (v := _) rfl (by kernel_rfl) (by kernel_rfl) (by kernel_rfl) (fun _ _ _ h => h) (by rfl) ?hk1 ?_
          case hk1 => (intro W hSW; go_simp; try with_reducible rfl)
          (try simp only [Act.put, List.setIfInBounds_toArray, List.set_cons_zero, List.set_cons_succ])
          refine' RL.takeV (i := 1) (v := _) rfl (by kernel_rfl) (by kernel_rfl) (by kernel_rfl) (fun _ _ _ h => h) (by rfl) ?hk2 ?_
          case hk2 => (intro W hSW; go_simp; try with_reducible rfl)
          (try simp only [Act.put, List.setIfInBounds_toArray, List.set_cons_zero, List.set_cons_succ])
          refine' RL.takeV (i := 2) (v := _) rfl (by kernel_rfl) (by kernel_rfl) (by kernel_rfl) (fun _ _ _ h => h) (by rfl) ?hk3 ?_
          case hk3 => (intro W hSW; go_simp; try with_reducible rfl)
          (try simp only [Act.put, List.setIfInBounds_toArray, List.set_cons_zero, List.set_cons_succ])
          refine' RL.takeV (i := 3) (v := _) rfl (by kernel_rfl) (by kernel_rfl) (by kernel_rfl) (fun _ _ _ h => h) (by rfl) ?hk4 ?_
          case hk4 => (intro W hSW; have k1 := row_cell_of (HS2.out.below hSW HS2.out.lt) HLK2.out.2 HNV.out.2; go_simp; try with_reducible rfl)
          (try simp only [Act.put, List.setIfInBounds_toArray, List.set_cons_zero, List.set_cons_succ])
          refine' RL.takeV (i := 4) (v := _) rfl (by kernel_rfl) (by kernel_rfl) (by kernel_rfl) (fun _ _ _ h => h) (by rfl) ?hk5 ?_
          case hk5 => (intro W hSW; have e3x := e3; go_simp; try with_reducible rfl)
          (try simp only [Act.put, List.setIfInBounds_toArray, List.set_cons_zero, List.set_cons_succ])
          refine' RL.takeV (i := 5) (v := _) rfl (by kernel_rfl) (by kernel_rfl) (by kernel_rfl) (fun _ _ _ h => h) (by rfl) ?hk6 ?_
          case hk6 => (intro W hSW; go_simp; try with_reducible rfl)
          (try simp only [Act.put, List.setIfInBounds_toArray, List.set_cons_zero, List.set_cons_succ])
          refine' RL.takeV (i := 6) (v := _) rfl (by kernel_rfl) (by kernel_rfl) (by kernel_rfl) (fun _ _ _ h => h) (by rfl) ?hk7 ?_
          case hk7 => (intro W hSW; go_simp; try with_reducible rfl)
          (try simp only [Act.put, List.setIfInBounds_toArray, List.set_cons_zero, List.set_cons_succ])
          refine' RL.takeV (i := 7) (v := _) rfl (by kernel_rfl) (by kernel_rfl) (by kernel_rfl) (fun _ _ _ h => h) (by rfl) ?hk8 ?_
          case hk8 => (intro W hSW; go_simp; try with_reducible rfl)
          (try simp only [Act.put, List.setIfInBounds_toArray, List.set_cons_zero, List.set_cons_succ])
          refine' RL.takeV (i := 8) (v := _) rfl (by kernel_rfl) (by kernel_rfl) (by kernel_rfl) (fun _ _ _ h => h) (by rfl) ?hk9 ?_
          case hk9 => (intro W hSW; have k0 := row_cell_of (HS2.out.below hSW HS2.out.lt) HLK2.out.1 HNV.out.1; go_simp; try with_reducible rfl)
          (try simp only [Act.put, List.setIfInBounds_toArray, List.set_cons_zero, List.set_cons_succ])
          refine' RL.takeV (i := 9) (v := _) rfl (by kernel_rfl) (by kernel_rfl) (by kernel_rfl) (fun _ _ _ h => h) (by rfl) ?hk10 ?_
          case hk10 => (intro W hSW; go_simp; try with_reducible rfl)
          (try simp only [Act.put, List.setIfInBounds_toArray, List.set_cons_zero, List.set_cons_succ])
          refine' RL.takeV (i := 10) (v := _) rfl (by kernel_rfl) (by kernel_rfl) (by kernel_rfl) (fun _ _ _ h => h) (by rfl) ?hk11 ?_
          case hk11 => (intro W hSW; have e4x := e4; go_simp; try with_reducible rfl)
          (try simp only [Act.put, List.setIfInBounds_toArray, List.set_cons_zero, List.set_cons_succ])
          refine' RL.takeV (i := 11) (v := _) rfl (by kernel_rfl) (by kernel_rfl) (by kernel_rfl) (fun _ _ _ h => h) (by rfl) ?hk12 ?_
          case hk12 => (intro W hSW; go_simp; try with_reducible rfl)
          (try simp only [Act.put, List.setIfInBounds_toArray, List.set_cons_zero, List.set_cons_succ])
          refine RL.done (by kernel_rfl) (fun wd hlwd hswd => ?_)
          have hlx : Below V2.heap.size V2 wd := (Below.drew (Below.refl _ _)).trans hlwd
          have HS3 := Lib.hid (HS2.out.below hlx HS2.out.lt)
          have HO3 := Lib.hid (HO2.out.below hlx HO2.out.lt)
          have HZ3 := Lib.hid (HZ2.out.below hlx HZ2.out.lt)
          have HB3 := Lib.hid (HB2.out.trans (hlx.mono (HB2.out.size_le HXB.out)))
          clear hlwd hswd hlx
          have c4 := row_cell_of HS3.out HLK2.out.1 HNV.out.1
          go_wp2_with ((with_reducible refine gate_ ?_); refine store_cell rfl 50 _ _ rfl (b := ob) (j := k) (v := v1 % W) rfl rfl Tryz.underlying50 (by kernel_rfl) HO3.out HOK.out ?_; intro V4 hV hgV; have HO4 := Lib.hid hV; have HS4 := Lib.hid (row_other HS3.out hgV HN7.out.1); have HZ4 := Lib.hid (blk_other HZ3.out hgV HN7.out.2.1); have HB4 := Lib.hid (HB3.out.grown hgV (HB3.out.size_le HXB.out) (fun j e => by cases e; exact HN7.out.2.2.1)); clear hV hgV c4)
          go_roundw
          case rel =>
            have REL := Lib.hid (show ∃ (k' : Nat) (L' : List Nat), k' ≤ 5 ∧ Value.int .i64 ((k : Int) + 1) = .int .i64 k' ∧ Value.int .u64 ((p ||| v1 / W : Nat) : Int) = .int .u64 ((it (rd T) k' (0, [0, 0, 0, 0, 0])).1 : Nat) ∧ Row V4 ob 53 (it (rd T) k' (0, [0, 0, 0, 0, 0])).2 ∧ Row V4 sb 87 L' ∧ L'.length = 10 ∧ (∀ j, k' * 2 ≤ j → nth L' j = nth (fl T) j) ∧ Rg.Blk V4 rb 53 Z5 ∧ Below xb w V4 from ⟨k + 1, L2, hk5, rfl, by rw [HST.out], by rw [HST.out]; exact HO4.out, HS4.out, HRE2.out.1, HRE2.out.2, HZ4.out, HB4.out⟩)
            first
              | exact REL.out
              | ((repeat apply Exists.intro); refine ⟨?_, rfl⟩; exact REL.out)
          case measure => (first | (simp [intOf]; done) | (simp [intOf]; omega))
        · obtain rfl : k = 5 := by omega
          have hdk : decide ((5 : Nat) < 5) = false := by simp
          have hmul : mul x y = carry ⟨((it (rd T) 5 (0, [0, 0, 0, 0, 0])).1 * 19 + nth (it (rd T) 5 (0, [0, 0, 0, 0, 0])).2 0) % W, (nth (it (rd T) 5 (0, [0, 0, 0, 0, 0])).2 1 + ((it (rd T) 5 (0, [0, 0, 0, 0, 0])).1 * 19 + nth (it (rd T) 5 (0, [0, 0, 0, 0, 0])).2 0) / W % M) % M, nth (it (rd T) 5 (0, [0, 0, 0, 0, 0])).2 2, nth (it (rd T) 5 (0, [0, 0, 0, 0, 0])).2 3, nth (it (rd T) 5 (0, [0, 0, 0, 0, 0])).2 4⟩ := by rw [← mulE_eq, ← HTE.out]; rfl
          have HRW := Lib.hid (it_rd_lt T 5)
          obtain ⟨q, hq⟩ : ∃ q, (it (rd T) 5 (0, [0, 0, 0, 0, 0])).1 = q := ⟨_, rfl⟩
          obtain ⟨R, hR⟩ : ∃ R, (it (rd T) 5 (0, [0, 0, 0, 0, 0])).2 = R := ⟨_, rfl⟩
          rw [hq, hR] at hmul
          rw [hq] at HQL ⊢
          rw [hR] at HO HOL HRW
          obtain ⟨o0, ho0⟩ : ∃ o0, nth R 0 = o0 := ⟨_, rfl⟩
          obtain ⟨o1, ho1⟩ : ∃ o1, nth R 1 = o1 := ⟨_, rfl⟩
          have HO0 := Lib.hid (show o0 < M from ho0 ▸ Nat.lt_trans (HRW.out 0) W_lt_M)
          rw [ho0, ho1] at hmul
          have hc := two_c (q * 19) o0 HO0.out
          have hm := two_m (q * 19) o0
          rw [tot_lt HQL.out HO0.out] at hc hm
          obtain ⟨p1, hp1⟩ : ∃ p1, q * 19 / M = p1 := ⟨_, rfl⟩
          obtain ⟨p2, hp2⟩ : ∃ p2, q * 19 % M = p2 := ⟨_, rfl⟩
          have HMU := Lib.hid (fun W => Tryz.bits_Mul64 q 19 HQL.out (by decide) W)
          rw [show (18446744073709551616 : Nat) = M from rfl, hp1, hp2] at HMU
          have hp1M : q * 19 / M % M = p1 := by rw [Nat.mod_eq_of_lt (div_lt HQL.out), hp1]
          rw [hp1M, hp2] at hc
          rw [hp2] at hm
          obtain ⟨ov, hov⟩ : ∃ ov, (p2 + o0) / M = ov := ⟨_, rfl⟩
          obtain ⟨v1, hv1⟩ : ∃ v1, (p2 + o0) % M = v1 := ⟨_, rfl⟩
          have HA0 := Lib.hid (fun W => add64_0 p2 o0 W)
          rw [hov, hv1] at HA0 hc
          rw [hv1] at hm
          obtain ⟨v2, hv2⟩ : ∃ v2, (p1 + ov) % M = v2 := ⟨_, rfl⟩
          have e2 : IntKind.u64.wrap ((p1 : Int) + (ov : Int)) = (v2 : Int) := by rw [wrap_add, hv2]
          rw [hv2] at hc
          have HV := Lib.hid (show v1 < M from hv1 ▸ mod_lt_M _)
          have e3 : IntKind.u64.wrap ((v2 : Int) * 8192) = ((v2 * 8192 % M : Nat) : Int) := wrap_shl v2
          obtain ⟨p, hp⟩ : ∃ p, v2 * 8192 % M = p := ⟨_, rfl⟩
          rw [hp] at e3 hc
          have e4 : bits .or .u64 (p : Int) ((v1 : Int) / 2251799813685248) = ((p ||| v1 / W : Nat) : Int) := wrap_or p (v1 / W) (hp ▸ mod_lt_M _) (Nat.lt_of_le_of_lt (Nat.div_le_self _ _) HV.out)
          have e5 : bits .and .u64 (v1 : Int) 2251799813685247 = ((v1 % W : Nat) : Int) := and_mask v1 HV.out
          rw [← hc, ← hm] at hmul
          obtain ⟨r, hr⟩ : ∃ r, (p ||| v1 / W) = r := ⟨_, rfl⟩
          rw [hr] at e4 hmul
          have e6 : IntKind.u64.wrap ((o1 : Int) + (r : Int)) = (((o1 + r) % M : Nat) : Int) := wrap_add o1 r
          obtain ⟨v3, hv3⟩ : ∃ v3, (o1 + r) % M = v3 := ⟨_, rfl⟩
          rw [hv3] at e6 hmul
          obtain ⟨F, hF⟩ : ∃ F : E, (⟨v1 % W, v3, nth R 2, nth R 3, nth R 4⟩ : E) = F := ⟨_, rfl⟩
          rw [hF] at hmul
          have HFL := Lib.hid (show (R.set 0 (v1 % W)).set 1 v3 = F.l from by rw [← hF]; exact set01 HOL.out _ _)
          have HMUL := Lib.hid hmul
          have c0 := row_cell_of HO.out (by rw [HOL.out]; decide) ho0
          have HO1 := Lib.hid ho1
          have HL01 := Lib.hid (show 0 < R.length ∧ 1 < (R.set 0 (v1 % W)).length by rw [List.length_set, HOL.out]; decide)
          clear hmul hq hR ho0 ho1 hc hm hp1 hp2 hp1M hov hv1 hv2 hp hr hv3 hF HS HRE
          have tok1 := True.intro
          go_wp2_with (first
            | (go_at_call 45; refine (HMU.out _).mono ?_; rintro e w9 ⟨rfl, rfl⟩; skip)
            | (simp only [HA0.out])
            | (have _t := tok1; (with_reducible refine gate_ ?_); refine store_cell rfl 50 _ _ rfl (b := ob) (j := 0) (v := v1 % W) rfl rfl Tryz.underlying50 (by kernel_rfl) HO.out HL01.out.1 ?_; intro V hV hgV; have HOa := Lib.hid hV; have HZa := Lib.hid (blk_other HZ.out hgV HN7.out.2.1); have HBa := Lib.hid (HB.out.grown hgV (HB.out.size_le HXB.out) (fun j e => by cases e; exact HN7.out.2.2.1)); have c1 := row_cell_of (j := 1) HOa.out HL01.out.2 ((nth_set_ne (by decide)).trans HO1.out); clear hV hgV c0; have tok2 := True.intro; clear _t tok1)
            | (have _t := tok2; (with_reducible refine gate_ ?_); refine store_cell rfl 50 _ _ rfl (b := ob) (j := 1) (v := v3) rfl rfl Tryz.underlying50 (by kernel_rfl) HOa.out HL01.out.2 ?_; intro V2 hV hgV; rw [HFL.out] at hV; have HOb := Lib.hid hV; have HZb := Lib.hid (blk_other HZa.out hgV HN7.out.2.1); have HBb := Lib.hid (HBa.out.grown hgV (HBa.out.size_le HXB.out) (fun j e => by cases e; exact HN7.out.2.2.1)); clear hV hgV c1 _t tok2)
            | ((with_reducible refine gate_ ?_); refine Cv.load_cells rfl 53 _ rfl ob 0 rfl (u64s F.l) _ (fun j v hv => by rw [Nat.zero_add]; exact Rg.Blk.cell (row_blk HOb.out) j hv) Tryz.underlying53 rfl (by rw [u64s_size]; kernel_rfl) ?_; skip)
            | (go_at_call 46; refine (carry_any _ F).mono ?_; rintro e w9 ⟨rfl, hb9⟩; skip; have HZ9 := Lib.hid (HZb.out.below hb9 HZb.out.lt); have HB9 := Lib.hid (HBb.out.trans (hb9.mono (HBb.out.size_le HXB.out))); clear hb9)
            | ((with_reducible refine gate_ ?_); refine Cv.store_blk rfl 53 _ _ rfl rb (u64s (carry F).l) Z5 53 rfl rfl HZ9.out (by rw [u64s_size]; kernel_rfl) (by rw [u64s_size]; rfl) (u64s_one _) ?_; intro V3 hV hgV; have HZZ := Lib.hid hV; have HBZ := Lib.hid (HB9.out.grown hgV (HB9.out.size_le HXB.out) (fun j e => by cases e; exact HN7.out.2.2.2.2.2.2)); clear hV hgV))
          refine bodyPost_ret (v := .agg (u64s (carry F).l))
            (results_cell_row Tryz.results24 _ _ rb 53 _ (0, 0) _ rfl HZZ.out Tryz.underlying53 rfl (by rw [u64s_size]; kernel_rfl)) rfl ?_
          exact ⟨by rw [HMUL.out], HXB.out ▸ HBZ.out⟩
end Go.Proofs.YtfaeigbfnjkojaaGreatDoor.Kx
