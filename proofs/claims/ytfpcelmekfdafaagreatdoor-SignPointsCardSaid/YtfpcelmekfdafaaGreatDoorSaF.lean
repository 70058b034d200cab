/- SgA, SgB, SgC, SgD, SgE, FeL, EdT, SgL, SgM, OpenArr: what the claims need of them. -/
import Derived.Lib.SlBuf
import Derived.Laws.CopyRow
import Derived.Test.YtfpcelmekfdafaaGreatDoorSaE
set_option linter.unusedVariables false
set_option linter.unusedSimpArgs false
set_option maxRecDepth 20000
set_option maxHeartbeats 16000000
namespace Go.Proofs.YtfpcelmekfdafaaGreatDoor.Kx
open Go.RowKit Go.Proofs.YtfpcelmekfdafaaGreatDoor.Cl Go.Proofs.YtfpcelmekfdafaaGreatDoor.Ed Go.Proofs.YtfpcelmekfdafaaGreatDoor.Rf
/-- a seed's secret in memory: 32 bytes and a text -/
def secV (a p : List UInt8) : Array Value := (Cv.bytesV a).push (.string (bs p))
theorem secV_size (a p : List UInt8) : (secV a p).size = a.length + 1 := by unfold secV; rw [Array.size_push, Cv.bytesV_size]
theorem secV_one (a p : List UInt8) : (secV a p).all (·.oneCell') = true := by
 unfold secV Cv.bytesV
 simp [Lib.byteCells, Value.oneCell']
theorem secV_get {a p : List UInt8} {j : Nat} {v : Value} (h : (Cv.bytesV a)[j]? = some v) : (secV a p)[j]? = some v := by
 unfold secV
 rw [Array.getElem?_push_lt (Array.getElem?_eq_some_iff.1 h).1, ← Array.getElem?_eq_getElem (Array.getElem?_eq_some_iff.1 h).1]
 exact h
theorem secV_str (a p : List UInt8) : (secV a p)[a.length]? = some (.string (bs p)) := by
 unfold secV
 rw [← Cv.bytesV_size a, Array.getElem?_push_size]
theorem part_row {P : Program} (w : World) (t e : TypeId) (n : Nat) (i : TypeInfo) (hu : P.underlying t = some (.array n e)) (hi : P.info? t = some i) (cs : Array Value) (off : Nat) : (part t cs off).run P w = .ok (.agg (cs.extract off (off + P.cellsOf t))) w := by
 unfold part isAgg
 simp [Sem.run_bind, run_underlying hu, run_sizeOf w hi]
theorem secV_left (a p : List UInt8) : (secV a p).extract 0 a.length = Cv.bytesV a := by
 unfold secV Cv.bytesV
 apply Array.toList_inj.1
 simp [Lib.byteCells]
theorem run_secF (w : World) (a p : List UInt8) (ha : a.length = 32) : (Instr.field 54 (.agg (secV a p)) 0).run Tryz.prog w = .ok (.agg (Cv.bytesV a)) w := by
 obtain ⟨i, hi, hs⟩ : ∃ i, Tryz.prog.info? 22 = some i ∧ i.size = 32 := by
  cases h : Tryz.prog.info? 22 with
  | none => exact absurd (show (Tryz.prog.info? 22).isSome = true by kernel_rfl) (by rw [h]; decide)
  | some i => exact ⟨i, rfl, by have e : (Tryz.prog.info? 22).map (·.size) = some 32 := by kernel_rfl
                                rw [h] at e; simpa using e⟩
 have hc : Tryz.prog.cellsOf 22 = 32 := by unfold Program.cellsOf; simp [hi, hs]
 have h := part_row w 22 5 32 i Tryz.underlying22 hi (secV a p) 0
 rw [hc, Nat.zero_add] at h
 have h2 := secV_left a p
 rw [ha] at h2
 rw [h2] at h
 generalize secV a p = sv at *
 unfold Instr.field
 simp [Sem.run_bind, run_underlying Tryz.underlying54, asAgg, h]
theorem fold_setO (o : Nat) : ∀ (l : List Value) (k : Nat) (arr : Array Value), o + k + l.length ≤ arr.size → ∀ j, ((l.zipIdx k).foldl (fun (cs : Array Value) (x : Value × Nat) => cs.setIfInBounds (o + x.2) x.1) arr)[j]? = if o + k ≤ j ∧ j < o + k + l.length then l[j - (o + k)]? else arr[j]?
 | [], k, arr, _, j => by
  rw [if_neg (fun e => by have := e.2; simp at this; omega)]; rfl
 | x :: l, k, arr, h, j => by
  rw [List.zipIdx_cons, List.foldl_cons, fold_setO o l (k + 1) _ (by rw [Array.size_setIfInBounds]; simp at h; omega) j]
  by_cases h1 : o + k = j
  · subst h1
    rw [if_neg (by omega), if_pos (by simp), Array.getElem?_setIfInBounds_self_of_lt (by simp at h; omega)]
    simp
  · rw [Array.getElem?_setIfInBounds_ne h1]
    by_cases h2 : o + (k + 1) ≤ j ∧ j < o + (k + 1) + l.length
    · rw [if_pos h2, if_pos (by simp; omega), show j - (o + k) = (j - (o + (k + 1))) + 1 by omega, List.getElem?_cons_succ]
    · rw [if_neg h2, if_neg (by simp; omega)]
theorem built_sec (a p : List UInt8) (ha : a.length = 32) : Tryz.prog.built 54 [(0, .agg (Cv.bytesV a)), (1, .string (bs p))] = some (secV a p) := by
 have e : Tryz.prog.built 54 [(0, .agg (Cv.bytesV a)), (1, .string (bs p))] = Instr.fill (#[(0, 32), (32, 1)][·]?) #[.int .u8 0, .int .u8 0, .int .u8 0, .int .u8 0, .int .u8 0, .int .u8 0, .int .u8 0, .int .u8 0, .int .u8 0, .int .u8 0, .int .u8 0, .int .u8 0, .int .u8 0, .int .u8 0, .int .u8 0, .int .u8 0, .int .u8 0, .int .u8 0, .int .u8 0, .int .u8 0, .int .u8 0, .int .u8 0, .int .u8 0, .int .u8 0, .int .u8 0, .int .u8 0, .int .u8 0, .int .u8 0, .int .u8 0, .int .u8 0, .int .u8 0, .int .u8 0, .string ⟨#[]⟩] [(0, .agg (Cv.bytesV a)), (1, .string (bs p))] := by kernel_rfl
 have hs : (Cv.bytesV a).size = 32 := by rw [Cv.bytesV_size, ha]
 rw [e]
 unfold Instr.fill
 show (if (Cv.bytesV a).size ≠ 32 || 0 + (Cv.bytesV a).size > 33 then none else _) = _
 rw [hs, if_neg (by decide)]
 show Instr.fill (#[(0, 32), (32, 1)][·]?) ((Cv.bytesV a).zipIdx.foldl (fun (cs : Array Value) (x : Value × Nat) => cs.setIfInBounds (0 + x.2) x.1) #[.int .u8 0, .int .u8 0, .int .u8 0, .int .u8 0, .int .u8 0, .int .u8 0, .int .u8 0, .int .u8 0, .int .u8 0, .int .u8 0, .int .u8 0, .int .u8 0, .int .u8 0, .int .u8 0, .int .u8 0, .int .u8 0, .int .u8 0, .int .u8 0, .int .u8 0, .int .u8 0, .int .u8 0, .int .u8 0, .int .u8 0, .int .u8 0, .int .u8 0, .int .u8 0, .int .u8 0, .int .u8 0, .int .u8 0, .int .u8 0, .int .u8 0, .int .u8 0, .string ⟨#[]⟩]) [(1, .string (bs p))] = _
 obtain ⟨zz, hz⟩ : ∃ zz : Array Value, zz = (#[.int .u8 0, .int .u8 0, .int .u8 0, .int .u8 0, .int .u8 0, .int .u8 0, .int .u8 0, .int .u8 0, .int .u8 0, .int .u8 0, .int .u8 0, .int .u8 0, .int .u8 0, .int .u8 0, .int .u8 0, .int .u8 0, .int .u8 0, .int .u8 0, .int .u8 0, .int .u8 0, .int .u8 0, .int .u8 0, .int .u8 0, .int .u8 0, .int .u8 0, .int .u8 0, .int .u8 0, .int .u8 0, .int .u8 0, .int .u8 0, .int .u8 0, .int .u8 0, .string ⟨#[]⟩] : Array Value) := ⟨_, rfl⟩
 have hz1 : zz.size = 33 := by rw [hz]; rfl
 rw [← hz]
 clear hz e
 have hl : (Cv.bytesV a).toList.length = 32 := by rw [Array.length_toList, hs]
 have hf := fold_setO 0 (Cv.bytesV a).toList 0 zz (by rw [hl, hz1]; decide)
 rw [← Array.foldl_toList, Array.toList_zipIdx]
 generalize hg : List.foldl (fun (cs : Array Value) (x : Value × Nat) => cs.setIfInBounds (0 + x.2) x.1) zz ((Cv.bytesV a).toList.zipIdx 0) = g at *
 have hgs : g.size = 33 := by
  have h1 := hf 32
  rw [hl, if_neg (by omega), Array.getElem?_eq_getElem (xs := zz) (by omega)] at h1
  have h2 := hf 33
  rw [hl, if_neg (by omega), Array.getElem?_eq_none (xs := zz) (by omega)] at h2
  have h3 := (Array.getElem?_eq_some_iff.1 h1).1
  have h4 := Array.getElem?_eq_none_iff.1 h2
  omega
 unfold Instr.fill
 show (if (1 : Nat) ≠ 1 || 32 + 1 > g.size then none else _) = _
 rw [hgs, if_neg (by decide)]
 unfold Instr.fill
 show some (g.setIfInBounds 32 (.string (bs p))) = some (secV a p)
 refine congrArg some (Array.ext_getElem? fun j => ?_)
 by_cases hj : j = 32
 · subst hj
   rw [Array.getElem?_setIfInBounds_self_of_lt (by omega)]
   have := secV_str a p
   rw [ha] at this
   exact this.symm
 · rw [Array.getElem?_setIfInBounds_ne (fun e => hj e.symm), hf j, hl]
   by_cases h2 : j < 32
   · rw [if_pos (by omega), Nat.zero_add, Nat.sub_zero, Array.getElem?_toList, Array.getElem?_eq_getElem (by omega)]
     exact (secV_get (Array.getElem?_eq_getElem (by omega))).symm
   · rw [if_neg (by omega), Array.getElem?_eq_none (by omega), Array.getElem?_eq_none (by rw [secV_size]; omega)]
theorem parts_n (w : World) (T : TypeId) (xs : List ByteArray) (h : xs ≠ []) (n : Nat) (hn : n = xs.length) : Jo.Parts (w.alloc (.cells (xs.map Value.string).toArray T)) (.slice (some ⟨w.heap.size, 0, none⟩) n n) xs := by
 subst hn
 exact .inr ⟨w.heap.size, 0, xs.length, rfl, fun j x hx => by rw [Nat.zero_add]; exact (Rg.Blk.new w _ _).cell j (by simp [hx]), by simp, Nat.le_refl _⟩
theorem bytes_front {w : World} {b T : Nat} {l : List UInt8} (h : Rg.Blk w b T (Cv.bytesV l)) (n : Nat) : Cv.Bytes w b 0 (l.take n) := fun j x hx => (Cv.Bytes.of_blk h) j x (by
 rw [List.getElem?_take] at hx
 split at hx
 · exact hx
 · cases hx)
theorem bytes_back {w : World} {b T : Nat} {l : List UInt8} (h : Rg.Blk w b T (Cv.bytesV l)) (n : Nat) : Cv.Bytes w b n (l.drop n) := fun j x hx => by
 rw [List.getElem?_drop] at hx
 have := (Cv.Bytes.of_blk h) (n + j) x hx
 rwa [Nat.zero_add] at this
/-- Sum512 over lists of bytes -/
theorem sum_l (W : World) (v : Value) (xs : List ByteArray) (l : List UInt8) (hl : (Jo.joined xs).data.toList = l) (hz : l.length ≤ 100000) (hn : xs.length ≤ 100) (hT : Sha.Tables W) (hv : Jo.Parts W v xs) : Calls Tryz.prog 54 #[v] W fun e w' => e = .returned (.agg (Cv.bytesV (dig5 l))) ∧ Below W.heap.size W w' := by
 have h := Sha.Sum512_any W v xs hT hv (by rw [← ByteArray.size_data, ← Array.length_toList, hl]; omega) (by omega)
 rw [hl] at h
 exact h
theorem open_any (w : World) (seed : List UInt8) (hl : seed.length = 32) (hT : Sha.Tables w) : Calls Tryz.prog 20 #[.agg (Cv.bytesV seed)] w fun e w' => e = .returned (.agg (secV (secA (dig5 seed)) ((dig5 seed).drop 32))) ∧ Below w.heap.size w w' := by
 obtain ⟨d, hd⟩ : ∃ d, dig5 seed = d := ⟨_, rfl⟩
 rw [hd]
 have hdl : d.length = 64 := by rw [← hd, dig5_len]
 obtain ⟨t, ht⟩ : ∃ t, d.take 32 = t := ⟨_, rfl⟩
 have htl : t.length = 32 := by rw [← ht, List.length_take, hdl]; rfl
 obtain ⟨pf, hpf⟩ : ∃ t, d.drop 32 = t := ⟨_, rfl⟩
 have HPL := ϕ (show pf.length = 32 by rw [← hpf, List.length_drop, hdl])
 obtain ⟨a0, h0⟩ : ∃ a, t[0]? = some a := ⟨_, List.getElem?_eq_getElem (by omega)⟩
 obtain ⟨a31, h31⟩ : ∃ a, t[31]? = some a := ⟨_, List.getElem?_eq_getElem (by omega)⟩
 obtain ⟨z0, hz0⟩ : ∃ z, a0 &&& 248 = z := ⟨_, rfl⟩
 obtain ⟨z31, hz31⟩ : ∃ z, a31 &&& 63 ||| 64 = z := ⟨_, rfl⟩
 obtain ⟨sa, hsa⟩ : ∃ s, secA d = s := ⟨_, rfl⟩
 have HCL := ϕ (show (t.set 0 z0).set 31 z31 = sa by rw [← hsa]; unfold secA; rw [ht, clamp_sets htl h0 h31, hz0, hz31])
 have HSL := ϕ (show sa.length = 32 by rw [← hsa]; exact clampB_l _ hdl)
 have HS := ϕ (fun W v (hT : Sha.Tables W) (hv : Jo.Parts W v [⟨seed.toArray⟩]) => show Calls Tryz.prog 54 #[v] W fun e w' => e = .returned (.agg (Cv.bytesV d)) ∧ Below W.heap.size W w' from hd ▸ sum_l W v _ seed (by rw [Jo.joined_list]; simp) (by omega) (by simp) hT hv)
 have HL := ϕ hl
 have HT := ϕ hT
 have HDL := ϕ hdl
 have HTL := ϕ htl
 have HTK := ϕ ht
 have HPF := ϕ hpf
 have H0 := ϕ h0
 have H31 := ϕ (show (t.set 0 z0)[31]? = some a31 by rw [List.getElem?_set_ne (by decide)]; exact h31)
 have e0 : bits .andNot .u8 (a0.toNat : Int) 7 = (z0.toNat : Int) := by rw [← hz0]; exact andNot7 a0
 have e1 : bits .and .u8 (a31.toNat : Int) 63 = ((a31 &&& 63).toNat : Int) := and63 a31
 have e2 : bits .or .u8 ((a31 &&& 63).toNat : Int) 64 = (z31.toNat : Int) := by rw [← hz31]; exact or64 _
 obtain ⟨y31, hy31⟩ : ∃ y : UInt8, a31 &&& 63 = y := ⟨_, rfl⟩
 rw [hy31] at e1 e2
 have E0 := ϕ e0
 have E1 := ϕ e1
 have E2 := ϕ e2
 rw [hsa, hpf]
 clear hd hl hT hdl htl ht h0 h31 hz0 hz31 hsa hpf e0 e1 e2 hy31
 go_enter Tryz.func20, Tryz.ntmps20
 go_upto_region 1 with ((with_reducible refine gate_ ?_); refine Rg.box_fresh rfl 22 _ rfl (Cv.bytesV seed) rfl ?_; intro X hX hbX hnX; have HX := ϕ hX; have HBX := ϕ hbX; clear hX hbX hnX)
 obtain ⟨sb, hsb⟩ : ∃ n, w.heap.size = n := ⟨_, rfl⟩
 obtain ⟨ob, hob⟩ : ∃ n, X.heap.size = n := ⟨_, rfl⟩
 have HN1 := ϕ (show w.heap.size ≤ ob from hob ▸ HBX.out.size)
 have HSB := ϕ (show Rg.Blk (X.alloc (.cells #[.int .u8 0, .int .u8 0, .int .u8 0, .int .u8 0, .int .u8 0, .int .u8 0, .int .u8 0, .int .u8 0, .int .u8 0, .int .u8 0, .int .u8 0, .int .u8 0, .int .u8 0, .int .u8 0, .int .u8 0, .int .u8 0, .int .u8 0, .int .u8 0, .int .u8 0, .int .u8 0, .int .u8 0, .int .u8 0, .int .u8 0, .int .u8 0, .int .u8 0, .int .u8 0, .int .u8 0, .int .u8 0, .int .u8 0, .int .u8 0, .int .u8 0, .int .u8 0, .string ⟨#[]⟩] 54)) sb 22 (Cv.bytesV seed) from (hsb ▸ HX.out).alloc _)
 have HOB := ϕ (show Rg.Blk (X.alloc (.cells #[.int .u8 0, .int .u8 0, .int .u8 0, .int .u8 0, .int .u8 0, .int .u8 0, .int .u8 0, .int .u8 0, .int .u8 0, .int .u8 0, .int .u8 0, .int .u8 0, .int .u8 0, .int .u8 0, .int .u8 0, .int .u8 0, .int .u8 0, .int .u8 0, .int .u8 0, .int .u8 0, .int .u8 0, .int .u8 0, .int .u8 0, .int .u8 0, .int .u8 0, .int .u8 0, .int .u8 0, .int .u8 0, .int .u8 0, .int .u8 0, .int .u8 0, .int .u8 0, .string ⟨#[]⟩] 54)) ob 54 (#[.int .u8 0, .int .u8 0, .int .u8 0, .int .u8 0, .int .u8 0, .int .u8 0, .int .u8 0, .int .u8 0, .int .u8 0, .int .u8 0, .int .u8 0, .int .u8 0, .int .u8 0, .int .u8 0, .int .u8 0, .int .u8 0, .int .u8 0, .int .u8 0, .int .u8 0, .int .u8 0, .int .u8 0, .int .u8 0, .int .u8 0, .int .u8 0, .int .u8 0, .int .u8 0, .int .u8 0, .int .u8 0, .int .u8 0, .int .u8 0, .int .u8 0, .int .u8 0, .string ⟨#[]⟩] : Array Value) from Rg.Blk.newAt hob.symm _ _)
 have HB := ϕ (show Below w.heap.size w (X.alloc (.cells #[.int .u8 0, .int .u8 0, .int .u8 0, .int .u8 0, .int .u8 0, .int .u8 0, .int .u8 0, .int .u8 0, .int .u8 0, .int .u8 0, .int .u8 0, .int .u8 0, .int .u8 0, .int .u8 0, .int .u8 0, .int .u8 0, .int .u8 0, .int .u8 0, .int .u8 0, .int .u8 0, .int .u8 0, .int .u8 0, .int .u8 0, .int .u8 0, .int .u8 0, .int .u8 0, .int .u8 0, .int .u8 0, .int .u8 0, .int .u8 0, .int .u8 0, .int .u8 0, .string ⟨#[]⟩] 54)) from HBX.out.alloc HBX.out.size _)
 have HT := ϕ (HT.out.below HB.out HT.out.size)
 try rw [hsb]
 try rw [hob]
 clear HX HBX hsb hob
 generalize (X.alloc (.cells #[.int .u8 0, .int .u8 0, .int .u8 0, .int .u8 0, .int .u8 0, .int .u8 0, .int .u8 0, .int .u8 0, .int .u8 0, .int .u8 0, .int .u8 0, .int .u8 0, .int .u8 0, .int .u8 0, .int .u8 0, .int .u8 0, .int .u8 0, .int .u8 0, .int .u8 0, .int .u8 0, .int .u8 0, .int .u8 0, .int .u8 0, .int .u8 0, .int .u8 0, .int .u8 0, .int .u8 0, .int .u8 0, .int .u8 0, .int .u8 0, .int .u8 0, .int .u8 0, .string ⟨#[]⟩] 54)) = Y at *
 have tb0 := True.intro
 go_upto_region 2 with (first
  | ((with_reducible refine gate_ ?_); refine Cv.conv_string rfl 25 5 9 _ rfl Tryz.underlying25 Tryz.underlying5 Tryz.underlying9 sb 0 32 32 seed rfl HL.out (Cv.Bytes.of_blk HSB.out) ?_; skip)
  | (go_at_call 54; refine (HS.out _ _ (HT.out.below ((Below.refl _ _).alloc (Nat.le_refl _) _) HT.out.size) (parts_n _ _ [_] (by simp) 1 rfl)).mono ?_; rintro e w1 ⟨rfl, hb1⟩; have hb2 := (Below.alloc (Below.refl Y.heap.size Y) (Nat.le_refl _) _).trans (hb1.mono (by simp)); have HOB := ϕ (HOB.out.below hb2 HOB.out.lt); have HB := tm HB hb2; clear hb1 hb2)
  | (refine Rg.store_fresh rfl 29 _ _ rfl (Cv.bytesV d) _ 29 rfl rfl (by rw [Cv.bytesV_size, HDL.out]; kernel_rfl) (by rw [Cv.bytesV_size, HDL.out]; rfl) (Cv.bytesV_one _) ?_; intro V1 hX hbX; have HD := ϕ hX; have HNd := ϕ (show ob < w1.heap.size from HOB.out.lt); have HOB := ϕ (HOB.out.below hbX HOB.out.lt); have HB1 := ϕ HB.out; have HB := tm HB hbX; clear hX hbX))
 obtain ⟨db, hdb⟩ : ∃ n, w1.heap.size = n := ⟨_, rfl⟩
 have HD := ϕ (show Rg.Blk V1 db 29 (Cv.bytesV d) from hdb ▸ HD.out)
 have HN2 := ϕ (show ob < db from hdb ▸ HNd.out)
 try rw [hdb]
 clear hdb HNd HSB HB1 HT HS
 go_upto_region 3 with (first
  | ((with_reducible refine gate_ ?_); refine Cv.slice_to_array rfl 22 5 32 _ rfl _ _ _ _ rfl Tryz.underlying22 (by decide) ?_; skip)
  | ((with_reducible refine gate_ ?_); refine Cv.load_cells rfl 22 _ rfl db 0 rfl (Cv.bytesV t) _ (HTK.out ▸ Cv.Bytes.cells (bytes_front HD.out 32)) Tryz.underlying22 rfl (by rw [Cv.bytesV_size, HTL.out]; kernel_rfl) ?_)
  | (refine Rg.store_fresh rfl 22 _ _ rfl (Cv.bytesV t) _ 22 rfl rfl (by rw [Cv.bytesV_size, HTL.out]; kernel_rfl) (by rw [Cv.bytesV_size, HTL.out]; rfl) (Cv.bytesV_one _) ?_; intro V2 hX hbX; have HA := ϕ hX; have HNd := ϕ (show db < V1.heap.size from HD.out.lt); have HOB := ϕ (HOB.out.below hbX HOB.out.lt); have HD := ϕ (HD.out.below hbX HD.out.lt); have HGA := ϕ (show w.heap.size ≤ V1.heap.size from HB.out.size); have HB := tm HB hbX; clear hX hbX))
 obtain ⟨ab, hab⟩ : ∃ n, V1.heap.size = n := ⟨_, rfl⟩
 have HA := ϕ (show Rg.Blk V2 ab 22 (Cv.bytesV t) from hab ▸ HA.out)
 have HN := ϕ (show ¬ ab = ob ∧ ¬ db = ob ∧ w.heap.size ≤ ob from by have h1 := hab ▸ HNd.out; have h2 := HN2.out; have h3 := HN1.out; omega)
 have HN3 := ϕ (show ¬ ob = ab ∧ ¬ db = ab ∧ w.heap.size ≤ ab from by have h1 := hab ▸ HNd.out; have h2 := HN2.out; have h3 := hab ▸ HGA.out; omega)
 try rw [hab]
 clear hab HNd HN1 HN2 HGA
 have x0 := HA.out.cell 0 (Cv.bytesV_get _ _ _ H0.out)
 have e0 := E0.out
 go_upto_region 4 with ((with_reducible refine gate_ ?_); refine Cv.store_byte rfl 5 _ _ rfl (b := ab) (j := 0) (l := t) (v := z0) rfl (by first | rfl | (simp [e0]; done)) Tryz.underlying5 (by kernel_rfl) HA.out (by rw [HTL.out]; decide) ?_; intro V3 hV hgV; have HD := ϕ (blk_other HD.out hgV (fun e => HN3.out.2.1 e.symm)); have HOB := ϕ (blk_other HOB.out hgV (fun e => HN3.out.1 e.symm)); have HA3 := ϕ hV; have HB := ϕ (HB.out.grown hgV HB.out.size (fun j e => by cases e; exact HN3.out.2.2)); clear hV hgV)
 clear x0 e0 HA
 have x1 := HA3.out.cell 31 (Cv.bytesV_get _ _ _ H31.out)
 have e1 := E1.out
 have e2 := E2.out
 go_upto_region 5 with ((with_reducible refine gate_ ?_); refine Cv.store_byte rfl 5 _ _ rfl (b := ab) (j := 31) (l := t.set 0 z0) (v := z31) rfl (by first | rfl | (simp [e1, e2]; done)) Tryz.underlying5 (by kernel_rfl) HA3.out (by rw [List.length_set, HTL.out]; decide) ?_; intro V4 hV hgV; have HD := ϕ (blk_other HD.out hgV (fun e => HN3.out.2.1 e.symm)); have HOB := ϕ (blk_other HOB.out hgV (fun e => HN3.out.1 e.symm)); have HA := ϕ (show Rg.Blk V4 ab 22 (Cv.bytesV sa) from HCL.out ▸ hV); have HB := ϕ (HB.out.grown hgV HB.out.size (fun j e => by cases e; exact HN3.out.2.2)); clear hV hgV)
 clear x1 e1 e2 HA3
 refine RL.start (fun W => Sp.Upd V4 W [ob]) (by kernel_rfl) (Sp.Upd.trans (Sp.Upd.refl _ _) (Sp.Upd.of_below (Below.drew (Below.refl _ _))) (by simp)) ?_
 refine RL.tw 0 (v := .agg (Cv.bytesV sa)) rfl (fun W hSW => RT.run_row 22 _ rfl _ rfl _ _ (upd_blk hSW HA.out (by simp; exact HN.out.1)) Tryz.underlying22 rfl (by rw [Cv.bytesV_size, HSL.out]; kernel_rfl)) ?_
 try go_frame
 refine' RL.tv 1 ?hk15 ?_
 case hk15 => (intro W hSW; go_simp; try with_reducible rfl)
 try go_frame
 refine' RL.tv 2 ?hk16 ?_
 case hk16 => (intro W hSW; have x1 := Cv.run_string_len (P := Tryz.prog) W 25 5 9 Tryz.underlying25 Tryz.underlying5 Tryz.underlying9 db 32 32 32 pf HPL.out (HPF.out ▸ bytes_back (upd_blk hSW HD.out (by simp; exact HN.out.2.1)) 32); go_simp; try with_reducible rfl)
 try go_frame
 refine RL.tw 3 (v := .agg (secV sa pf)) rfl (fun W hSW => run_build_op 54 _ rfl #[(0, .agg (Cv.bytesV sa)), (1, .string (bs pf))] (by go_simp; try rfl) _ (built_sec _ _ HSL.out)) ?_
 try go_frame
 refine RL.sk 4 (fun va hlva hsva K hK => ?_)
 have hO := (HOB.out.below (Below.drew (Below.refl _ _)) HOB.out.lt).below hlva (by have := HOB.out.lt; simpa using this)
 refine store_blk_op 54 _ _ rfl ob (secV sa pf) _ 54 rfl (by rfl) hO (by rw [secV_size, HSL.out]; kernel_rfl) (by rw [secV_size, HSL.out]; rfl) (secV_one _ _) ?_
 intro Y hY hgY
 refine hK.out _ _ (Sp.Upd.trans hsva (Sp.Upd.of_grown1 hgY) (fun q hq => .inl hq)) ?_
 clear hK
 try go_frame
 refine RL.done (by kernel_rfl) (fun V hlV hsV => ?_)
 have HR := ϕ (show Rg.Blk V ob 54 (secV sa pf) from Rg.Blk.below hY hlV hY.lt)
 have HB := ϕ (below_upd HB.out hsV (fun k hk => by simp at hk; rw [hk]; exact HN.out.2.2) HB.out.size)
 clear hO hY hgY hlva hsva hlV hsV
 go_wp2_with fail
 refine bodyPost_ret (v := .agg (secV sa pf))
  (results_cell_row Tryz.results20 _ _ ob 54 _ (0, 0) _ rfl HR.out Tryz.underlying54 rfl (by rw [secV_size, HSL.out]; kernel_rfl)) rfl ?_
 exact ⟨rfl, HB.out⟩
end Go.Proofs.YtfpcelmekfdafaaGreatDoor.Kx
namespace Go.Proofs.YtfpcelmekfdafaaGreatDoor.RL
open Go.RowKit
end Go.Proofs.YtfpcelmekfdafaaGreatDoor.RL
namespace Go.Proofs.YtfpcelmekfdafaaGreatDoor.Kx
open Go.RowKit Go.Proofs.YtfpcelmekfdafaaGreatDoor.Cl Go.Proofs.YtfpcelmekfdafaaGreatDoor.Ed Go.Proofs.YtfpcelmekfdafaaGreatDoor.Rf
theorem tab_upd {w w' : World} {s : List Nat} (h : Sha.Tables w) (hu : Sp.Upd w w' s) (hs : ∀ k ∈ s, 3 ≤ k) : Sha.Tables w' :=
 h.below (below_upd (Below.refl _ _) hu hs h.size) (Nat.le_refl _)
theorem red_toLe (l : List UInt8) : leN (⟨(dig5 l).toArray⟩ : ByteArray).data.toList % Ed.L = red l := rfl
theorem reduce_l (w : World) (v : Value) (xs : List ByteArray) (l : List UInt8) (hl : (Jo.joined xs).data.toList = l) (hz : l.length ≤ 100000) (hn : xs.length ≤ 100) (hT : Sha.Tables w) (hO : Ord w) (hv : Jo.Parts w v xs) : Calls Tryz.prog 28 #[v] w fun e w' => e = .returned (.agg (Cv.bytesV (toLe 32 (red l)))) ∧ Below w.heap.size w w' := by
 obtain ⟨d, hd⟩ : ∃ d, dig5 l = d := ⟨_, rfl⟩
 have hdl : d.length = 64 := by rw [← hd, dig5_len]
 have HR := ϕ (show toLe 32 (leN (⟨d.toArray⟩ : ByteArray).data.toList % Ed.L) = toLe 32 (red l) from by rw [← hd, red_toLe])
 obtain ⟨rd, hrd⟩ : ∃ r, toLe 32 (red l) = r := ⟨_, rfl⟩
 rw [hrd] at HR ⊢
 have HRL := ϕ (show rd.length = 32 from by rw [← hrd, toLe_len])
 have HS := ϕ (fun W (hT : Sha.Tables W) (hv : Jo.Parts W v xs) => show Calls Tryz.prog 54 #[v] W fun e w' => e = .returned (.agg (Cv.bytesV d)) ∧ Below W.heap.size W w' from hd ▸ sum_l W v xs l hl hz hn hT hv)
 have HT := ϕ hT
 have HO := ϕ hO
 have HP := ϕ hv
 have HDL := ϕ hdl
 have HDS := ϕ (show (⟨d.toArray⟩ : ByteArray).size = 64 from by show d.toArray.size = 64; rw [List.size_toArray]; exact hdl)
 clear hd hdl hl hz hn hT hO hv hrd
 go_enter Tryz.func28, Tryz.ntmps28
 go_upto_region 1 with fail
 obtain ⟨rb, hrb⟩ : ∃ n, w.heap.size = n := ⟨_, rfl⟩
 have HN := ϕ (show w.heap.size ≤ rb from Nat.le_of_eq hrb)
 have HB := ϕ (show Below w.heap.size w (w.alloc (.cells z32 22)) from (Below.refl _ _).alloc (Nat.le_refl _) _)
 have HRB := ϕ (show Rg.Blk (w.alloc (.cells z32 22)) rb 22 z32 from Rg.Blk.newAt hrb.symm _ _)
 have HT := ϕ (HT.out.below HB.out HT.out.size)
 have HO := ϕ (HO.out.below HB.out HO.out.size)
 have HP := ϕ (HP.out.below HB.out)
 rw [hrb]
 generalize (w.alloc (.cells z32 22)) = Y at *
 clear hrb
 go_upto_region 2 with (first
  | (go_at_call 54; refine (HS.out _ HT.out HP.out).mono ?_; rintro e w1 ⟨rfl, hb1⟩; have HRB := ϕ (HRB.out.below hb1 HRB.out.lt); have HO := ϕ (HO.out.below hb1 HO.out.size); have HB := tm HB hb1; clear hb1)
  | (refine Rg.store_fresh rfl 29 _ _ rfl (Cv.bytesV d) _ 29 rfl rfl (by rw [Cv.bytesV_size, HDL.out]; kernel_rfl) (by rw [Cv.bytesV_size, HDL.out]; rfl) (Cv.bytesV_one _) ?_; intro V1 hX hbX; have HD := ϕ hX; have HRB := ϕ (HRB.out.below hbX HRB.out.lt); have HO := ϕ (HO.out.below hbX HO.out.size); have HB := tm HB hbX; clear hX hbX))
 go_wp2_with (first
  | ((with_reducible refine gate_ ?_); refine Cv.conv_string rfl 25 5 9 _ rfl Tryz.underlying25 Tryz.underlying5 Tryz.underlying9 _ 0 64 64 d rfl HDL.out (Cv.Bytes.of_blk HD.out) ?_; skip)
  | (go_at_call 61; refine (Reduce_any _ ⟨d.toArray⟩ HDS.out HO.out).mono ?_; rintro e w2 ⟨rfl, hb1⟩; rw [HR.out]; have HRB2 := ϕ (HRB.out.below hb1 HRB.out.lt); have HB2 := ϕ (HB.out.trans (hb1.mono HB.out.size)); clear hb1)
  | ((with_reducible refine gate_ ?_); refine Cv.store_blk rfl 22 _ _ rfl rb (Cv.bytesV rd) z32 22 rfl rfl HRB2.out (by rw [Cv.bytesV_size, HRL.out]; kernel_rfl) (by rw [Cv.bytesV_size, HRL.out]; rfl) (Cv.bytesV_one _) ?_; intro V hV hgV; have HZ2 := ϕ hV; have HB3 := ϕ (HB2.out.grown hgV HB2.out.size (fun j e => by cases e; exact HN.out)); clear hV hgV))
 refine bodyPost_ret (v := .agg (Cv.bytesV rd))
  (results_cell_row Tryz.results28 _ _ rb 22 _ (0, 0) _ rfl HZ2.out Tryz.underlying22 rfl (by rw [Cv.bytesV_size, HRL.out]; kernel_rfl)) rfl ?_
 exact ⟨rfl, HB3.out⟩
theorem Key_any (w : World) (seed : List UInt8) (hl : seed.length = 32) (hT : Sha.Tables w) : Calls Tryz.prog 8 #[.agg (Cv.bytesV seed)] w fun e w' => e = .returned (.agg (Cv.bytesV (pub seed))) ∧ Below w.heap.size w w' := by
 obtain ⟨cd, ct, c1, c2, c3, c4, ecd, ect, hrq, cbeg⟩ := begin_e
 have CBE := ϕ cbeg
 obtain ⟨B0, hB0⟩ : ∃ R : E4, (⟨c1, c2, c3, c4⟩ : E4) = R := ⟨_, rfl⟩
 have hrB : Rq4 base B0 := hB0 ▸ hrq
 have hop := fun W (hW : Sha.Tables W) => open_any W seed hl hW
 obtain ⟨sa, hsa⟩ : ∃ s, secA (dig5 seed) = s := ⟨_, rfl⟩
 obtain ⟨pf, hpf⟩ : ∃ s, (dig5 seed).drop 32 = s := ⟨_, rfl⟩
 have hsl : sa.length = 32 := by rw [← hsa]; exact clampB_l _ (dig5_len _)
 obtain ⟨ke, hke⟩ : ∃ s, pub seed = s := ⟨_, rfl⟩
 have hkp : pub seed = enc (Pt.mul (leN sa) base) := by rw [← hsa]; rfl
 rw [hsa, hpf] at hop
 obtain ⟨R1, hR1, cmu⟩ := mult_q (cd := cd) (ct := ct) (c1 := c1) (c2 := c2) (c3 := c3) (c4 := c4) ect hrB sa hsl
 have cby := bytes_q hR1
 rw [← hkp, hke] at cby
 rw [hke]
 have HOP := ϕ hop
 have CMU := ϕ (hB0 ▸ cmu)
 have CBY := ϕ cby
 have HSL := ϕ hsl
 have HKL := ϕ (show ke.length = 32 from by rw [← hke, hkp]; exact enc_len _)
 have HL := ϕ hl
 have HT := ϕ hT
 clear hop hsa hpf hsl hke hkp hR1 cmu cby hl hT ecd ect hrq cbeg hB0 hrB
 go_enter Tryz.func8, Tryz.ntmps8
 go_upto_region 1 with ((with_reducible refine gate_ ?_); refine Rg.box_fresh rfl 22 _ rfl (Cv.bytesV seed) rfl ?_; intro X hX hbX hnX; have HX := ϕ hX; have HBX := ϕ hbX; clear hX hbX hnX)
 obtain ⟨sb, hsb⟩ : ∃ n, w.heap.size = n := ⟨_, rfl⟩
 obtain ⟨rb, hrb⟩ : ∃ n, X.heap.size = n := ⟨_, rfl⟩
 have HGR := ϕ (show w.heap.size ≤ rb from hrb ▸ HBX.out.size)
 have NT := ϕ (show 3 ≤ rb from Nat.le_trans HT.out.size HGR.out)
 have Hsb := ϕ (show Rg.Blk (X.alloc (.cells z32 22)) sb 22 (Cv.bytesV seed) from (hsb ▸ HX.out).alloc _)
 have HRB := ϕ (show Rg.Blk (X.alloc (.cells z32 22)) rb 22 z32 from Rg.Blk.newAt hrb.symm _ _)
 have Nsb := ϕ (show ¬ sb = rb from by have h := (hsb ▸ HX.out).lt; omega)
 have HB := ϕ (show Below w.heap.size w (X.alloc (.cells z32 22)) from HBX.out.alloc HBX.out.size _)
 have HT := ϕ (HT.out.below HB.out HT.out.size)
 try rw [hsb]
 try rw [hrb]
 clear HX HBX hsb hrb
 generalize (X.alloc (.cells z32 22)) = Y at *
 go_upto_region 2 with (go_at_call 18; refine (CBE.out _).mono ?_; rintro e w1 ⟨⟨cb, hcb, rfl, hcv⟩, hb1⟩; have Ncb := ϕ (show ¬ cb = rb from by have h := HRB.out.lt; omega); have Hcb := ϕ (show Rg.Blk w1 cb 57 (u64s (els [cd, ct, c1, c2, c3, c4])) from hcv); have Hsb := ϕ (Hsb.out.below hb1 Hsb.out.lt); have HRB := ϕ (HRB.out.below hb1 HRB.out.lt); have HT := ϕ (HT.out.below hb1 HT.out.size); have HB := tm HB hb1; clear hb1 hcv hcb)
 refine RL.start (fun W => Sp.Upd w1 W [rb]) (by kernel_rfl) (Sp.Upd.trans (Sp.Upd.refl _ _) (Sp.Upd.of_below (Below.drew (Below.refl _ _))) (by simp)) ?_
 refine' RL.tv 0 ?hk15 ?_
 case hk15 => (intro W hSW; go_simp; try with_reducible rfl)
 try go_frame
 refine RL.tw 1 (v := .agg (Cv.bytesV seed)) rfl (fun W hSW => RT.run_row 22 _ rfl _ rfl _ _ (upd_blk hSW Hsb.out (by simp; exact Nsb.out)) Tryz.underlying22 rfl (by rw [Cv.bytesV_size, HL.out]; kernel_rfl)) ?_
 try go_frame
 refine' RL.tc 2 (v := (.agg (secV sa pf))) 20 #[.agg (Cv.bytesV seed)] ?hk16 ?hc16 ?_
 case hk16 => (intro W; go_simp; try with_reducible rfl)
 case hc16 => (intro W hSW; exact (HOP.out W (tab_upd HT.out hSW (by simp; exact NT.out))).mono (fun e w9 h9 => ⟨h9.1, h9.2, Sp.Upd.trans hSW (Sp.Upd.of_below h9.2) (by simp)⟩))
 try go_frame
 refine' RL.tv 3 ?hk17 ?_
 case hk17 => (intro W hSW; have x1 := run_secF W sa pf HSL.out; go_simp; try with_reducible rfl)
 try go_frame
 refine' RL.tv 4 ?hk18 ?_
 case hk18 => (intro W hSW; go_simp; try with_reducible rfl)
 try go_frame
 refine' RL.tv 5 ?hk19 ?_
 case hk19 => (intro W hSW; go_simp; try with_reducible rfl)
 try go_frame
 refine' RL.tv 6 ?hk20 ?_
 case hk20 => (intro W hSW; go_simp; try with_reducible rfl)
 try go_frame
 refine RL.tw 7 (v := .agg (u64s (els [c1, c2, c3, c4]))) rfl (fun W hSW => run_at 51 _ rfl cb 10 rfl (u64s (els [c1, c2, c3, c4])) (els_at (upd_blk hSW Hcb.out (by simp; exact Ncb.out)) 2 10 [c1, c2, c3, c4] rfl rfl (by simp)) Tryz.underlying51 rfl (by kernel_rfl)) ?_
 try go_frame
 refine' RL.tc 8 (v := (.agg (u64s (els [R1.x, R1.y, R1.z, R1.t])))) 19 #[.pointer (some ⟨cb, 0, none⟩), .agg (Cv.bytesV sa), .agg (u64s (els [c1, c2, c3, c4]))] ?hk21 ?hc21 ?_
 case hk21 => (intro W; go_simp; try with_reducible rfl)
 case hc21 => (intro W hSW; exact (CMU.out cb W (upd_blk hSW Hcb.out (by simp; exact Ncb.out))).mono (fun e w9 h9 => ⟨h9.1, h9.2, Sp.Upd.trans hSW (Sp.Upd.of_below h9.2) (by simp)⟩))
 try go_frame
 refine' RL.tc 9 (v := (.agg (Cv.bytesV ke))) 21 #[.agg (u64s (els [R1.x, R1.y, R1.z, R1.t]))] ?hk22 ?hc22 ?_
 case hk22 => (intro W; go_simp; try with_reducible rfl)
 case hc22 => (intro W hSW; exact (CBY.out W).mono (fun e w9 h9 => ⟨h9.1, h9.2, Sp.Upd.trans hSW (Sp.Upd.of_below h9.2) (by simp)⟩))
 try go_frame
 refine RL.sk 10 (fun va hlva hsva K hK => ?_)
 have hO := (HRB.out.below (Below.drew (Below.refl _ _)) HRB.out.lt).below hlva (by have := HRB.out.lt; simpa using this)
 refine store_blk_op 22 _ _ rfl rb (Cv.bytesV ke) _ 22 rfl (by rfl) hO (by rw [Cv.bytesV_size, HKL.out]; kernel_rfl) (by rw [Cv.bytesV_size, HKL.out]; rfl) (Cv.bytesV_one _) ?_
 intro Y hY hgY
 refine hK.out _ _ (Sp.Upd.trans hsva (Sp.Upd.of_grown1 hgY) (fun q hq => .inl hq)) ?_
 clear hK
 try go_frame
 refine RL.done (by kernel_rfl) (fun V hlV hsV => ?_)
 have HR := ϕ (show Rg.Blk V rb 22 (Cv.bytesV ke) from Rg.Blk.below hY hlV hY.lt)
 have HB := ϕ (below_upd HB.out hsV (fun k hk => by simp at hk; rw [hk]; exact HGR.out) HB.out.size)
 clear hO hY hgY hlva hsva hlV hsV
 go_wp2_with fail
 refine bodyPost_ret (v := .agg (Cv.bytesV ke))
  (results_cell_row Tryz.results8 _ _ rb 22 _ (0, 0) _ rfl HR.out Tryz.underlying22 rfl (by rw [Cv.bytesV_size, HKL.out]; kernel_rfl)) rfl ?_
 exact ⟨rfl, HB.out⟩
end Go.Proofs.YtfpcelmekfdafaaGreatDoor.Kx
namespace Go.Proofs.YtfpcelmekfdafaaGreatDoor.RL
open Go.RowKit
theorem wp_enter {P : Program} {o : Oper} {a : Act} {w : World} {K : Act → World → Prop} {Q : Exit → Act → World → Prop} {F : FuncId} {args : Array Value} (hv : (execOp a.eval o).run P w = .ok (.enter F args) w) (h : Calls P F args w fun e w' => ∃ v, e = .returned v ∧ K (a.put o.dst v) w') : o.wp P a w K Q := by
 unfold Oper.wp
 rw [hv]
 refine Calls.mono h ?_
 rintro e w' ⟨v, rfl, hk⟩
 exact hk
theorem wp_made {P : Program} {o : Oper} {a : Act} {w w' : World} {K : Act → World → Prop} {Q : Exit → Act → World → Prop} {v : Value} (hv : (execOp a.eval o).run P w = .ok (.value v) w') (h : K (a.put o.dst v) w') : o.wp P a w K Q := by
 unfold Oper.wp
 rw [hv]
 exact h
theorem rest_of {T : Nat → Nat → World → Prop} {G : Prop} (F : Nat → Nat → World → Prop) (h1 : (∀ b c W, F b c W → T b c W) → G) (h2 : ∀ b c W, F b c W → T b c W) : G := h1 h2
theorem norm {P : Program} {md : Region.Mode} {ops : Array Oper} {Q : Exit → Act → World → Prop} {S : World → Prop} {fuel : Nat} {listed : Array Bool} {a : Act} {w : World} (l' : Array Bool) (h : listed = l') (hh : H P md ops Q S w fuel l' a) : H P md ops Q S w fuel listed a := h ▸ hh
end Go.Proofs.YtfpcelmekfdafaaGreatDoor.RL
namespace Go.Proofs.YtfpcelmekfdafaaGreatDoor.Kx
open Go.RowKit Go.Proofs.YtfpcelmekfdafaaGreatDoor.Cl Go.Proofs.YtfpcelmekfdafaaGreatDoor.Ed Go.Proofs.YtfpcelmekfdafaaGreatDoor.Rf
theorem Point_any (w : World) (l : List UInt8) (hl : l.length = 32) : Calls Tryz.prog 10 #[.agg (Cv.bytesV l)] w fun e w' => e = .returned (.bool (dec l).isSome) ∧ Below w.heap.size w w' := by
 obtain ⟨cd, ct, c1, c2, c3, c4, ecd, ect, hrq, cbeg⟩ := begin_e
 have CBE := ϕ cbeg
 obtain ⟨B0, hB0⟩ : ∃ R : E4, (⟨c1, c2, c3, c4⟩ : E4) = R := ⟨_, rfl⟩
 have hrB : Rq4 base B0 := hB0 ▸ hrq
 obtain ⟨R0, ok, hok, crd⟩ := read_q (cd := cd) (ct := ct) (c1 := c1) (c2 := c2) (c3 := c3) (c4 := c4) ecd l hl
 have HOK := ϕ (show (dec l).isSome = ok from by
  rcases hok with ⟨h1, p, h2, _⟩ | ⟨h1, h2⟩
  · rw [h1, h2]; rfl
  · rw [h1, h2]; rfl)
 have CRD := ϕ crd
 have HL := ϕ hl
 rw [HOK.out]
 clear hok crd hl ecd ect hrq cbeg hB0 hrB
 go_enter Tryz.func10, Tryz.ntmps10
 go_upto_region 1 with ((with_reducible refine gate_ ?_); refine Rg.box_fresh rfl 22 _ rfl (Cv.bytesV l) rfl ?_; intro X hX hbX hnX; have HX := ϕ hX; have HBX := ϕ hbX; clear hX hbX hnX)
 obtain ⟨sb, hsb⟩ : ∃ n, w.heap.size = n := ⟨_, rfl⟩
 have Hsb := ϕ (show Rg.Blk X sb 22 (Cv.bytesV l) from hsb ▸ HX.out)
 have HBX := ϕ (show Below w.heap.size w X from HBX.out)
 have HSB := ϕ hsb
 try rw [hsb]
 clear HX hsb
 refine RL.start (RL.Aft X) (by kernel_rfl) (RL.Aft.drew (RL.Aft.refl X)) ?_
 refine RL.tw 1 (v := .agg (Cv.bytesV l)) rfl (fun W hSW => RT.run_row 22 _ rfl _ rfl _ _ (aft_blk hSW Hsb.out) Tryz.underlying22 rfl (by rw [Cv.bytesV_size, HL.out]; kernel_rfl)) ?_
 try go_frame
 refine' RL.rest_of (T := ?TT) (fun cb ab W => RL.Aft X W ∧ Rg.Blk W cb 57 (u64s (els [cd, ct, c1, c2, c3, c4])) ∧ Rg.Blk W ab 51 q20 ∧ X.heap.size ≤ ab) ?hmain ?hrr
 case hmain =>
  intro hrest
  refine RL.step2 (i := 0) (j := 6) rfl rfl (by kernel_rfl) (by rfl) (by rfl) (fun y1 hly1 hsy1 K hK => ?_) (fun y1 hly1 hsy1 K hK => ?_)
  · refine RL.wp_enter (F := 18) (args := #[]) (by go_simp; try rfl) ?_
    refine (CBE.out y1).mono ?_
    rintro e y1x ⟨⟨cb, hcb, rfl, kcb⟩, hb⟩
    have hSy1x : RL.Aft X y1x := RL.Aft.lat hsy1 hb
    refine ⟨_, rfl, hK.out _ _ (RL.Aft.lat hsy1 hb) ?_⟩
    have kcb : Rg.Blk y1x cb 57 (u64s (els [cd, ct, c1, c2, c3, c4])) := kcb
    clear hK
    try go_frame
    refine RL.step2 (i := 2) (j := 6) rfl rfl (by kernel_rfl) (by rfl) (by rfl) (fun y2 hly2 hsy2 K hK => ?_) (fun y2 hly2 hsy2 K hK => ?_)
    · have kcb := kcb.below hly2 kcb.lt
      refine RL.wp_enter (F := 27) (args := #[.pointer (some ⟨cb, 0, none⟩), .agg (Cv.bytesV l)]) (by go_simp; try rfl) ?_
      refine (CRD.out cb y2 kcb).mono ?_
      rintro e y2x ⟨rfl, hb⟩
      have hSy2x : RL.Aft X y2x := RL.Aft.lat hsy2 hb
      have kcb := kcb.below hb kcb.lt
      refine ⟨_, rfl, hK.out _ _ (RL.Aft.lat hsy2 hb) ?_⟩
      clear hK
      try go_frame
      refine' RL.tv 3 ?hk15 ?_
      case hk15 => (intro W hSW; go_simp; try with_reducible rfl)
      try go_frame
      refine' RL.tv 4 ?hk16 ?_
      case hk16 => (intro W hSW; go_simp; try with_reducible rfl)
      try go_frame
      refine' RL.tv 5 ?hk17 ?_
      case hk17 => (intro W hSW; go_simp; try with_reducible rfl)
      try go_frame
      refine RL.sk 6 (fun y3 hly3 hsy3 K hK => ?_)
      have kcb := kcb.below hly3 kcb.lt
      refine RL.wp_made (v := .pointer (some ⟨y3.heap.size, 0, none⟩)) (w' := y3.alloc (.cells q20 51)) (by go_simp; try rfl) ?_
      obtain ⟨ab, hab⟩ : ∃ n, y3.heap.size = n := ⟨_, rfl⟩
      have hba : Below y3.heap.size y3 (y3.alloc (.cells q20 51)) := (Below.refl _ _).alloc (Nat.le_refl _) _
      have kab : Rg.Blk (y3.alloc (.cells q20 51)) ab 51 q20 := Rg.Blk.newAt hab.symm _ _
      have gab : X.heap.size ≤ ab := by rw [← hab]; exact (show RL.Aft X y3 from hsy3).size
      have kcb := kcb.below hba kcb.lt
      refine hK.out _ _ (RL.Aft.alloc hsy3 _) ?_
      try rw [hab]
      have hSy3y : RL.Aft X (y3.alloc (.cells q20 51)) := RL.Aft.alloc hsy3 _
      generalize hyy3 : y3.alloc (.cells q20 51) = y3y at *
      clear hab hba hyy3
      clear hK
      try go_frame
      refine RL.norm #[true, true, true, true, true, true, true, false, false] (by kernel_rfl) ?_
      exact hrest cb ab _ ⟨by assumption, kcb, kab, gab⟩
    · have kcb := kcb.below hly2 kcb.lt
      refine RL.wp_made (v := .pointer (some ⟨y2.heap.size, 0, none⟩)) (w' := y2.alloc (.cells q20 51)) (by go_simp; try rfl) ?_
      obtain ⟨ab, hab⟩ : ∃ n, y2.heap.size = n := ⟨_, rfl⟩
      have hba : Below y2.heap.size y2 (y2.alloc (.cells q20 51)) := (Below.refl _ _).alloc (Nat.le_refl _) _
      have kab : Rg.Blk (y2.alloc (.cells q20 51)) ab 51 q20 := Rg.Blk.newAt hab.symm _ _
      have gab : X.heap.size ≤ ab := by rw [← hab]; exact (show RL.Aft X y2 from hsy2).size
      have kcb := kcb.below hba kcb.lt
      refine hK.out _ _ (RL.Aft.alloc hsy2 _) ?_
      try rw [hab]
      have hSy2y : RL.Aft X (y2.alloc (.cells q20 51)) := RL.Aft.alloc hsy2 _
      generalize hyy2 : y2.alloc (.cells q20 51) = y2y at *
      clear hab hba hyy2
      clear hK
      try go_frame
      refine RL.sk 2 (fun y4 hly4 hsy4 K hK => ?_)
      have kcb := kcb.below hly4 kcb.lt
      have kab := kab.below hly4 kab.lt
      refine RL.wp_enter (F := 27) (args := #[.pointer (some ⟨cb, 0, none⟩), .agg (Cv.bytesV l)]) (by go_simp; try rfl) ?_
      refine (CRD.out cb y4 kcb).mono ?_
      rintro e y4x ⟨rfl, hb⟩
      have hSy4x : RL.Aft X y4x := RL.Aft.lat hsy4 hb
      have kcb := kcb.below hb kcb.lt
      have kab := kab.below hb kab.lt
      refine ⟨_, rfl, hK.out _ _ (RL.Aft.lat hsy4 hb) ?_⟩
      clear hK
      try go_frame
      refine' RL.tv 3 ?hk18 ?_
      case hk18 => (intro W hSW; go_simp; try with_reducible rfl)
      try go_frame
      refine' RL.tv 4 ?hk19 ?_
      case hk19 => (intro W hSW; go_simp; try with_reducible rfl)
      try go_frame
      refine' RL.tv 5 ?hk20 ?_
      case hk20 => (intro W hSW; go_simp; try with_reducible rfl)
      try go_frame
      refine RL.norm #[true, true, true, true, true, true, true, false, false] (by kernel_rfl) ?_
      exact hrest cb ab _ ⟨by assumption, kcb, kab, gab⟩
  · refine RL.wp_made (v := .pointer (some ⟨y1.heap.size, 0, none⟩)) (w' := y1.alloc (.cells q20 51)) (by go_simp; try rfl) ?_
    obtain ⟨ab, hab⟩ : ∃ n, y1.heap.size = n := ⟨_, rfl⟩
    have hba : Below y1.heap.size y1 (y1.alloc (.cells q20 51)) := (Below.refl _ _).alloc (Nat.le_refl _) _
    have kab : Rg.Blk (y1.alloc (.cells q20 51)) ab 51 q20 := Rg.Blk.newAt hab.symm _ _
    have gab : X.heap.size ≤ ab := by rw [← hab]; exact (show RL.Aft X y1 from hsy1).size
    refine hK.out _ _ (RL.Aft.alloc hsy1 _) ?_
    try rw [hab]
    have hSy1y : RL.Aft X (y1.alloc (.cells q20 51)) := RL.Aft.alloc hsy1 _
    generalize hyy1 : y1.alloc (.cells q20 51) = y1y at *
    clear hab hba hyy1
    clear hK
    try go_frame
    refine RL.sk 0 (fun y5 hly5 hsy5 K hK => ?_)
    have kab := kab.below hly5 kab.lt
    refine RL.wp_enter (F := 18) (args := #[]) (by go_simp; try rfl) ?_
    refine (CBE.out y5).mono ?_
    rintro e y5x ⟨⟨cb, hcb, rfl, kcb⟩, hb⟩
    have hSy5x : RL.Aft X y5x := RL.Aft.lat hsy5 hb
    have kab := kab.below hb kab.lt
    refine ⟨_, rfl, hK.out _ _ (RL.Aft.lat hsy5 hb) ?_⟩
    have kcb : Rg.Blk y5x cb 57 (u64s (els [cd, ct, c1, c2, c3, c4])) := kcb
    clear hK
    try go_frame
    refine RL.sk 2 (fun y6 hly6 hsy6 K hK => ?_)
    have kab := kab.below hly6 kab.lt
    have kcb := kcb.below hly6 kcb.lt
    refine RL.wp_enter (F := 27) (args := #[.pointer (some ⟨cb, 0, none⟩), .agg (Cv.bytesV l)]) (by go_simp; try rfl) ?_
    refine (CRD.out cb y6 kcb).mono ?_
    rintro e y6x ⟨rfl, hb⟩
    have hSy6x : RL.Aft X y6x := RL.Aft.lat hsy6 hb
    have kab := kab.below hb kab.lt
    have kcb := kcb.below hb kcb.lt
    refine ⟨_, rfl, hK.out _ _ (RL.Aft.lat hsy6 hb) ?_⟩
    clear hK
    try go_frame
    refine' RL.tv 3 ?hk21 ?_
    case hk21 => (intro W hSW; go_simp; try with_reducible rfl)
    try go_frame
    refine' RL.tv 4 ?hk22 ?_
    case hk22 => (intro W hSW; go_simp; try with_reducible rfl)
    try go_frame
    refine' RL.tv 5 ?hk23 ?_
    case hk23 => (intro W hSW; go_simp; try with_reducible rfl)
    try go_frame
    refine RL.norm #[true, true, true, true, true, true, true, false, false] (by kernel_rfl) ?_
    exact hrest cb ab _ ⟨by assumption, kcb, kab, gab⟩
 case hrr =>
  rintro cb ab Z0 ⟨ha0, -, g2, gab⟩
  refine RL.sk 7 (fun va hlva hsva K hK => ?_)
  have g2 := g2.below hlva g2.lt
  refine store_blk_op 51 _ _ rfl ab (u64s (els [R0.x, R0.y, R0.z, R0.t])) _ 51 rfl (by rfl) g2 (by kernel_rfl) rfl (els_all _) ?_
  intro Y hY hgY
  refine hK.out _ _ (Below.grown hsva hgY (Below.size hsva) (fun k hk => by cases hk; exact gab)) ?_
  clear hK
  try go_frame
  refine' RL.tv 8 ?hk24 ?_
  case hk24 => (intro W hSW; go_simp; try with_reducible rfl)
  try go_frame
  refine RL.done (by kernel_rfl) (fun V hlV hsV => ?_)
  have HB := ϕ (HBX.out.trans (Below.mono (show Below X.heap.size X V from hsV) HBX.out.size))
  go_wp2_with fail
  go_ret
  exact ⟨rfl, HSB.out ▸ HB.out⟩
theorem parts_blk {w : World} {T b : Nat} (xs : List ByteArray) (h : Rg.Blk w b T (xs.map Value.string).toArray) (n : Nat) (hn : n = xs.length) : Jo.Parts w (.slice (some ⟨b, 0, none⟩) n n) xs := by
 subst hn
 exact .inr ⟨b, 0, xs.length, rfl, fun j x hx => by rw [Nat.zero_add]; exact h.cell j (by simp [hx]), h.lt, Nat.le_refl _⟩
/-- copy of bytes into a row of bytes -/
theorem copy_op {P : Program} {o : Oper} {a : Act} {w : World} {K : Act → World → Prop} {Q : Exit → Act → World → Prop} (d s : Operand) (t t' e : TypeId) (ho : o.op = .call { callee := .builtin .copy, args := #[d, s], argTypes := #[t, t'] })
 {b off dl dc g so sl sc T : Nat} {l src : List UInt8} (hd : a.eval d = .slice (some ⟨b, off, none⟩) dl dc) (hs : a.eval s = .slice (some ⟨g, so, none⟩) sl sc) (hu : P.underlying t = some (.slice e)) (hz : (P.info? e).map (·.size) = some 1)
 (hB : Rg.Blk w b T (Cv.bytesV l)) (hS : Cv.Bytes w g so src) (hn : src.length = Nat.min sl dl) (hf : off + src.length ≤ l.length)
 (h : ∀ X v, Rg.Blk X b T (Cv.bytesV (l.take off ++ src ++ l.drop (off + src.length))) → w.grownBy X (some b) → K (a.put o.dst v) X) : Oper.wp P o a w K Q := by
 have hl : (Lib.byteCells src).length = src.length := by simp [Lib.byteCells]
 have hr := run_copy_row (P := P) w t t' o.type e b off dl dc ⟨g, so, none⟩ sl sc (Cv.bytesV l) T (Lib.byteCells src) hu hz hB (hl.trans hn) (fun j v hv => by
  have hv2 : (Cv.bytesV src)[j]? = some v := by unfold Cv.bytesV; rw [List.getElem?_toArray]; exact hv
  have h3 := hS.cells j v hv2
  have e3 : Addr.add ⟨g, so, none⟩ j = ⟨g, so + j, none⟩ := by unfold Addr.add; split <;> simp_all
  rw [e3]; exact h3) (by rw [hl, Cv.bytesV_size]; exact hf) (by intro v hv; simp [Lib.byteCells] at hv; obtain ⟨x, _, rfl⟩ := hv; rfl)
 have e1 : ((Cv.bytesV l).toList.take off ++ Lib.byteCells src ++ (Cv.bytesV l).toList.drop (off + (Lib.byteCells src).length)).toArray = Cv.bytesV (l.take off ++ src ++ l.drop (off + src.length)) := by
  rw [hl]
  unfold Cv.bytesV
  simp [Lib.byteCells, List.map_take, List.map_drop]
 rw [e1] at hr
 refine Lib.wp_copy_run w d s t t' ho _ _ hd hs hr ?_
 exact h _ _ hB.setRow ⟨rfl, rfl, rfl, by simp, fun k _ hk => setRow_other w b k _ (fun e => hk (congrArg some e))⟩
theorem cb_ne_tb {W : World} {b T1 T2 : Nat} {c1 c2 : Array Value} (h1 : Rg.Blk W b T1 c1) (h2 : Rg.Blk W b T2 c2) (hT : T1 ≠ T2 := by decide) : False := by
 have := h1.symm.trans h2
 injection this with this
 injection this with _ this
 exact hT this
theorem muln_s {k a r : Nat} {ab : List UInt8} (hk : k < Ed.L) (hr : r < Ed.L) (ha : leN ab = a) : mulN (toLe 32 k) ab (toLe 32 r) % Ed.L = (k * a + r) % Ed.L := by
 unfold mulN
 rw [leN_l hk, leN_l hr, ha, Nat.mul_comm a, Nat.add_comm]
theorem Sign_any (w : World) (seed m : List UInt8) (hl : seed.length = 32) (hm : m.length ≤ 10000) (hT : Sha.Tables w) (hO : Ord w) : Calls Tryz.prog 12 #[.agg (Cv.bytesV seed), .string (bs m)] w fun e w' => e = .returned (.agg (Cv.bytesV (sig seed (pub seed) m))) ∧ Below w.heap.size w w' := by
 obtain ⟨cd, ct, c1, c2, c3, c4, ecd, ect, hrq, cbeg⟩ := begin_e
 have CBE := ϕ cbeg
 obtain ⟨B0, hB0⟩ : ∃ R : E4, (⟨c1, c2, c3, c4⟩ : E4) = R := ⟨_, rfl⟩
 have hrB : Rq4 base B0 := hB0 ▸ hrq
 have hop := fun W (hW : Sha.Tables W) => open_any W seed hl hW
 obtain ⟨sa, hsa⟩ : ∃ s, secA (dig5 seed) = s := ⟨_, rfl⟩
 obtain ⟨pf, hpf⟩ : ∃ s, (dig5 seed).drop 32 = s := ⟨_, rfl⟩
 have hsl : sa.length = 32 := by rw [← hsa]; exact clampB_l _ (dig5_len _)
 have hpl : pf.length = 32 := by rw [← hpf, List.length_drop, dig5_len]
 have han : leN sa = aN seed := by rw [← hsa]; rfl
 obtain ⟨ke, hke⟩ : ∃ s, pub seed = s := ⟨_, rfl⟩
 have hkp : pub seed = enc (Pt.mul (leN sa) base) := by rw [← hsa]; rfl
 rw [hsa, hpf] at hop
 obtain ⟨rr, hrr⟩ : ∃ s, toLe 32 (rN seed m) = s := ⟨_, rfl⟩
 have hrl : rr.length = 32 := by rw [← hrr, toLe_len]
 have hrn : rN seed m < Ed.L := red_lt _
 obtain ⟨rp, hat⟩ : ∃ s, enc (rP seed m) = s := ⟨_, rfl⟩
 have hatl : rp.length = 32 := by rw [← hat]; exact enc_len _
 have hkl : ke.length = 32 := by rw [← hke, hkp]; exact enc_len _
 obtain ⟨kk, hkk⟩ : ∃ s, toLe 32 (red (rp ++ ke ++ m)) = s := ⟨_, rfl⟩
 have hkkl : kk.length = 32 := by rw [← hkk, toLe_len]
 obtain ⟨ss, hss⟩ : ∃ s, toLe 32 (sN seed ke m) = s := ⟨_, rfl⟩
 have hssl : ss.length = 32 := by rw [← hss, toLe_len]
 have hms : toLe 32 (mulN kk sa rr % Ed.L) = ss := by
  rw [← hkk, ← hrr, muln_s (red_lt _) hrn han, ← hss]
  unfold sN
  rw [hat]
 obtain ⟨R1, hR1, cm1⟩ := mult_q (cd := cd) (ct := ct) (c1 := c1) (c2 := c2) (c3 := c3) (c4 := c4) ect hrB sa hsl
 have cb1 := bytes_q hR1
 rw [← hkp, hke] at cb1
 obtain ⟨R2, hR2, cm2⟩ := mult_q (cd := cd) (ct := ct) (c1 := c1) (c2 := c2) (c3 := c3) (c4 := c4) ect hrB rr hrl
 have cb2 := bytes_q hR2
 rw [← hrr, leN_l hrn, show enc (Pt.mul (rN seed m) base) = enc (rP seed m) from rfl, hat] at cb2
 have HRES := ϕ (show sig seed ke m = rp ++ ss from by unfold sig; rw [hat, hss])
 have HR1 := ϕ (fun W v (hT : Sha.Tables W) (hO : Ord W) (hv : Jo.Parts W v [bs pf, bs m]) => show Calls Tryz.prog 28 #[v] W fun e w' => e = .returned (.agg (Cv.bytesV rr)) ∧ Below W.heap.size W w' from by
  have h := reduce_l W v _ (pf ++ m) (by rw [Jo.joined_list]; simp [bs_list]) (by rw [List.length_append]; omega) (by simp) hT hO hv
  rw [← hrr]
  unfold rN
  rw [hpf]
  exact h)
 have HR2 := ϕ (fun W v (hT : Sha.Tables W) (hO : Ord W) (hv : Jo.Parts W v [⟨rp.toArray⟩, ⟨ke.toArray⟩, bs m]) => show Calls Tryz.prog 28 #[v] W fun e w' => e = .returned (.agg (Cv.bytesV kk)) ∧ Below W.heap.size W w' from by
  have h := reduce_l W v _ (rp ++ ke ++ m) (by rw [Jo.joined_list]; simp [bs_list]) (by rw [List.length_append, List.length_append]; omega) (by simp) hT hO hv
  rw [← hkk]
  exact h)
 have CMA := ϕ (fun W (hO : Ord W) => show Calls Tryz.prog 29 #[.agg (Cv.bytesV kk), .agg (Cv.bytesV sa), .agg (Cv.bytesV rr)] W fun e w' => e = .returned (.agg (Cv.bytesV ss)) ∧ Below W.heap.size W w' from hms ▸ MulAdd_any W kk sa rr hkkl hsl hrl hO)
 have HOP := ϕ hop
 have CM1 := ϕ (hB0 ▸ cm1)
 have CB1 := ϕ cb1
 have CM2 := ϕ (hB0 ▸ cm2)
 have CB2 := ϕ cb2
 have HSL := ϕ hsl
 have HKL := ϕ hkl
 have HRL := ϕ hrl
 have HAL := ϕ hatl
 have HSS := ϕ hssl
 have HGL := ϕ (show (rp ++ ss).length = 64 from by rw [List.length_append]; omega)
 have EQ1 := ϕ (show (List.replicate 64 (0 : UInt8)).take 0 ++ rp ++ (List.replicate 64 (0 : UInt8)).drop (0 + rp.length) = rp ++ List.replicate 32 0 from by rw [hatl]; simp)
 have EQ2 := ϕ (show (rp ++ List.replicate 32 (0 : UInt8)).take 32 ++ ss ++ (rp ++ List.replicate 32 (0 : UInt8)).drop (32 + ss.length) = rp ++ ss from by
  rw [List.take_append_of_le_length (by omega), List.take_of_length_le (by omega), List.drop_eq_nil_of_le (by simp; omega), List.append_nil])
 have HL := ϕ hl
 have HT := ϕ hT
 have HO := ϕ hO
 rw [hke]
 clear hop hsa hpf hsl hpl han hke hkp hR1 cm1 cb1 hR2 cm2 cb2 hrr hrl hrn hat hatl hkl hkk hkkl hss hssl hms hl hm hT hO ecd ect hrq cbeg hB0 hrB
 go_enter Tryz.func12, Tryz.ntmps12
 go_upto_region 1 with ((with_reducible refine gate_ ?_); refine Rg.box_fresh rfl 22 _ rfl (Cv.bytesV seed) rfl ?_; intro X hX hbX hnX; have HX := ϕ hX; have HBX := ϕ hbX; clear hX hbX hnX)
 obtain ⟨sb, hsb⟩ : ∃ n, w.heap.size = n := ⟨_, rfl⟩
 obtain ⟨rb, hrb⟩ : ∃ n, X.heap.size = n := ⟨_, rfl⟩
 have GR := ϕ (show w.heap.size ≤ rb from hrb ▸ HBX.out.size)
 have Hsb := ϕ (show Rg.Blk (X.alloc (.cells #[.int .u8 0, .int .u8 0, .int .u8 0, .int .u8 0, .int .u8 0, .int .u8 0, .int .u8 0, .int .u8 0, .int .u8 0, .int .u8 0, .int .u8 0, .int .u8 0, .int .u8 0, .int .u8 0, .int .u8 0, .int .u8 0, .int .u8 0, .int .u8 0, .int .u8 0, .int .u8 0, .int .u8 0, .int .u8 0, .int .u8 0, .int .u8 0, .int .u8 0, .int .u8 0, .int .u8 0, .int .u8 0, .int .u8 0, .int .u8 0, .int .u8 0, .int .u8 0, .int .u8 0, .int .u8 0, .int .u8 0, .int .u8 0, .int .u8 0, .int .u8 0, .int .u8 0, .int .u8 0, .int .u8 0, .int .u8 0, .int .u8 0, .int .u8 0, .int .u8 0, .int .u8 0, .int .u8 0, .int .u8 0, .int .u8 0, .int .u8 0, .int .u8 0, .int .u8 0, .int .u8 0, .int .u8 0, .int .u8 0, .int .u8 0, .int .u8 0, .int .u8 0, .int .u8 0, .int .u8 0, .int .u8 0, .int .u8 0, .int .u8 0, .int .u8 0] 29)) sb 22 (Cv.bytesV seed) from (hsb ▸ HX.out).alloc _)
 have Hrb := ϕ (show Rg.Blk (X.alloc (.cells #[.int .u8 0, .int .u8 0, .int .u8 0, .int .u8 0, .int .u8 0, .int .u8 0, .int .u8 0, .int .u8 0, .int .u8 0, .int .u8 0, .int .u8 0, .int .u8 0, .int .u8 0, .int .u8 0, .int .u8 0, .int .u8 0, .int .u8 0, .int .u8 0, .int .u8 0, .int .u8 0, .int .u8 0, .int .u8 0, .int .u8 0, .int .u8 0, .int .u8 0, .int .u8 0, .int .u8 0, .int .u8 0, .int .u8 0, .int .u8 0, .int .u8 0, .int .u8 0, .int .u8 0, .int .u8 0, .int .u8 0, .int .u8 0, .int .u8 0, .int .u8 0, .int .u8 0, .int .u8 0, .int .u8 0, .int .u8 0, .int .u8 0, .int .u8 0, .int .u8 0, .int .u8 0, .int .u8 0, .int .u8 0, .int .u8 0, .int .u8 0, .int .u8 0, .int .u8 0, .int .u8 0, .int .u8 0, .int .u8 0, .int .u8 0, .int .u8 0, .int .u8 0, .int .u8 0, .int .u8 0, .int .u8 0, .int .u8 0, .int .u8 0, .int .u8 0] 29)) rb 29 (#[.int .u8 0, .int .u8 0, .int .u8 0, .int .u8 0, .int .u8 0, .int .u8 0, .int .u8 0, .int .u8 0, .int .u8 0, .int .u8 0, .int .u8 0, .int .u8 0, .int .u8 0, .int .u8 0, .int .u8 0, .int .u8 0, .int .u8 0, .int .u8 0, .int .u8 0, .int .u8 0, .int .u8 0, .int .u8 0, .int .u8 0, .int .u8 0, .int .u8 0, .int .u8 0, .int .u8 0, .int .u8 0, .int .u8 0, .int .u8 0, .int .u8 0, .int .u8 0, .int .u8 0, .int .u8 0, .int .u8 0, .int .u8 0, .int .u8 0, .int .u8 0, .int .u8 0, .int .u8 0, .int .u8 0, .int .u8 0, .int .u8 0, .int .u8 0, .int .u8 0, .int .u8 0, .int .u8 0, .int .u8 0, .int .u8 0, .int .u8 0, .int .u8 0, .int .u8 0, .int .u8 0, .int .u8 0, .int .u8 0, .int .u8 0, .int .u8 0, .int .u8 0, .int .u8 0, .int .u8 0, .int .u8 0, .int .u8 0, .int .u8 0, .int .u8 0] : Array Value) from Rg.Blk.newAt hrb.symm _ _)
 have HB := ϕ (show Below w.heap.size w (X.alloc (.cells #[.int .u8 0, .int .u8 0, .int .u8 0, .int .u8 0, .int .u8 0, .int .u8 0, .int .u8 0, .int .u8 0, .int .u8 0, .int .u8 0, .int .u8 0, .int .u8 0, .int .u8 0, .int .u8 0, .int .u8 0, .int .u8 0, .int .u8 0, .int .u8 0, .int .u8 0, .int .u8 0, .int .u8 0, .int .u8 0, .int .u8 0, .int .u8 0, .int .u8 0, .int .u8 0, .int .u8 0, .int .u8 0, .int .u8 0, .int .u8 0, .int .u8 0, .int .u8 0, .int .u8 0, .int .u8 0, .int .u8 0, .int .u8 0, .int .u8 0, .int .u8 0, .int .u8 0, .int .u8 0, .int .u8 0, .int .u8 0, .int .u8 0, .int .u8 0, .int .u8 0, .int .u8 0, .int .u8 0, .int .u8 0, .int .u8 0, .int .u8 0, .int .u8 0, .int .u8 0, .int .u8 0, .int .u8 0, .int .u8 0, .int .u8 0, .int .u8 0, .int .u8 0, .int .u8 0, .int .u8 0, .int .u8 0, .int .u8 0, .int .u8 0, .int .u8 0] 29)) from HBX.out.alloc HBX.out.size _)
 have HT := ϕ (HT.out.below HB.out HT.out.size)
 have HO := ϕ (HO.out.below HB.out HO.out.size)
 try rw [hsb]
 try rw [hrb]
 clear HX HBX hsb hrb
 generalize (X.alloc (.cells #[.int .u8 0, .int .u8 0, .int .u8 0, .int .u8 0, .int .u8 0, .int .u8 0, .int .u8 0, .int .u8 0, .int .u8 0, .int .u8 0, .int .u8 0, .int .u8 0, .int .u8 0, .int .u8 0, .int .u8 0, .int .u8 0, .int .u8 0, .int .u8 0, .int .u8 0, .int .u8 0, .int .u8 0, .int .u8 0, .int .u8 0, .int .u8 0, .int .u8 0, .int .u8 0, .int .u8 0, .int .u8 0, .int .u8 0, .int .u8 0, .int .u8 0, .int .u8 0, .int .u8 0, .int .u8 0, .int .u8 0, .int .u8 0, .int .u8 0, .int .u8 0, .int .u8 0, .int .u8 0, .int .u8 0, .int .u8 0, .int .u8 0, .int .u8 0, .int .u8 0, .int .u8 0, .int .u8 0, .int .u8 0, .int .u8 0, .int .u8 0, .int .u8 0, .int .u8 0, .int .u8 0, .int .u8 0, .int .u8 0, .int .u8 0, .int .u8 0, .int .u8 0, .int .u8 0, .int .u8 0, .int .u8 0, .int .u8 0, .int .u8 0, .int .u8 0] 29)) = Y at *
 refine RL.start (RL.Aft Y) (by kernel_rfl) (RL.Aft.drew (RL.Aft.refl Y)) ?_
 refine RL.tw 1 (v := .agg (Cv.bytesV seed)) rfl (fun W hSW => RT.run_row 22 _ rfl _ rfl _ _ (aft_blk hSW Hsb.out) Tryz.underlying22 rfl (by rw [Cv.bytesV_size, HL.out]; kernel_rfl)) ?_
 try go_frame
 refine' RL.rest_of (T := ?TTq7) (fun cb tb W => RL.Aft Y W ∧ Rg.Blk W cb 57 (u64s (els [cd, ct, c1, c2, c3, c4])) ∧ Rg.Blk W tb 54 (#[.int .u8 0, .int .u8 0, .int .u8 0, .int .u8 0, .int .u8 0, .int .u8 0, .int .u8 0, .int .u8 0, .int .u8 0, .int .u8 0, .int .u8 0, .int .u8 0, .int .u8 0, .int .u8 0, .int .u8 0, .int .u8 0, .int .u8 0, .int .u8 0, .int .u8 0, .int .u8 0, .int .u8 0, .int .u8 0, .int .u8 0, .int .u8 0, .int .u8 0, .int .u8 0, .int .u8 0, .int .u8 0, .int .u8 0, .int .u8 0, .int .u8 0, .int .u8 0, .string ⟨#[]⟩] : Array Value) ∧ Y.heap.size ≤ tb) ?hmainq7 ?hrrq7
 case hmainq7 =>
  intro hrest
  refine RL.step2 (i := 0) (j := 3) rfl rfl (by kernel_rfl) (by rfl) (by rfl) (fun y8 hly8 hsy8 K hK => ?_) (fun y8 hly8 hsy8 K hK => ?_)
  · refine RL.wp_enter (F := 18) (args := #[]) (by go_simp; try rfl) ?_
    refine (CBE.out y8).mono ?_
    rintro e y8x ⟨⟨cb, hcb, rfl, kcb⟩, hb⟩
    have hSy8x : RL.Aft Y y8x := RL.Aft.lat hsy8 hb
    refine ⟨_, rfl, hK.out _ _ (RL.Aft.lat hsy8 hb) ?_⟩
    have kcb : Rg.Blk y8x cb 57 (u64s (els [cd, ct, c1, c2, c3, c4])) := kcb
    clear hK
    try go_frame
    refine' RL.tc 2 (v := (.agg (secV sa pf))) 20 #[.agg (Cv.bytesV seed)] ?hk25 ?hc25 ?_
    case hk25 => (intro W; go_simp; try with_reducible rfl)
    case hc25 => (intro W hSW; exact (HOP.out W (HT.out.below hSW HT.out.size)).mono (fun e w9 h9 => ⟨h9.1, h9.2, RL.Aft.lat hSW h9.2⟩))
    try go_frame
    refine RL.sk 3 (fun y9 hly9 hsy9 K hK => ?_)
    have kcb := kcb.below hly9 kcb.lt
    refine RL.wp_made (v := .pointer (some ⟨y9.heap.size, 0, none⟩)) (w' := y9.alloc (.cells #[.int .u8 0, .int .u8 0, .int .u8 0, .int .u8 0, .int .u8 0, .int .u8 0, .int .u8 0, .int .u8 0, .int .u8 0, .int .u8 0, .int .u8 0, .int .u8 0, .int .u8 0, .int .u8 0, .int .u8 0, .int .u8 0, .int .u8 0, .int .u8 0, .int .u8 0, .int .u8 0, .int .u8 0, .int .u8 0, .int .u8 0, .int .u8 0, .int .u8 0, .int .u8 0, .int .u8 0, .int .u8 0, .int .u8 0, .int .u8 0, .int .u8 0, .int .u8 0, .string ⟨#[]⟩] 54)) (by go_simp; try rfl) ?_
    obtain ⟨tb, htb⟩ : ∃ n, y9.heap.size = n := ⟨_, rfl⟩
    have hba : Below y9.heap.size y9 (y9.alloc (.cells #[.int .u8 0, .int .u8 0, .int .u8 0, .int .u8 0, .int .u8 0, .int .u8 0, .int .u8 0, .int .u8 0, .int .u8 0, .int .u8 0, .int .u8 0, .int .u8 0, .int .u8 0, .int .u8 0, .int .u8 0, .int .u8 0, .int .u8 0, .int .u8 0, .int .u8 0, .int .u8 0, .int .u8 0, .int .u8 0, .int .u8 0, .int .u8 0, .int .u8 0, .int .u8 0, .int .u8 0, .int .u8 0, .int .u8 0, .int .u8 0, .int .u8 0, .int .u8 0, .string ⟨#[]⟩] 54)) := (Below.refl _ _).alloc (Nat.le_refl _) _
    have ktb : Rg.Blk (y9.alloc (.cells #[.int .u8 0, .int .u8 0, .int .u8 0, .int .u8 0, .int .u8 0, .int .u8 0, .int .u8 0, .int .u8 0, .int .u8 0, .int .u8 0, .int .u8 0, .int .u8 0, .int .u8 0, .int .u8 0, .int .u8 0, .int .u8 0, .int .u8 0, .int .u8 0, .int .u8 0, .int .u8 0, .int .u8 0, .int .u8 0, .int .u8 0, .int .u8 0, .int .u8 0, .int .u8 0, .int .u8 0, .int .u8 0, .int .u8 0, .int .u8 0, .int .u8 0, .int .u8 0, .string ⟨#[]⟩] 54)) tb 54 #[.int .u8 0, .int .u8 0, .int .u8 0, .int .u8 0, .int .u8 0, .int .u8 0, .int .u8 0, .int .u8 0, .int .u8 0, .int .u8 0, .int .u8 0, .int .u8 0, .int .u8 0, .int .u8 0, .int .u8 0, .int .u8 0, .int .u8 0, .int .u8 0, .int .u8 0, .int .u8 0, .int .u8 0, .int .u8 0, .int .u8 0, .int .u8 0, .int .u8 0, .int .u8 0, .int .u8 0, .int .u8 0, .int .u8 0, .int .u8 0, .int .u8 0, .int .u8 0, .string ⟨#[]⟩] := Rg.Blk.newAt htb.symm _ _
    have gtb : Y.heap.size ≤ tb := by rw [← htb]; exact (show RL.Aft Y y9 from hsy9).size
    have kcb := kcb.below hba kcb.lt
    refine hK.out _ _ (RL.Aft.alloc hsy9 _) ?_
    try rw [htb]
    have hSy9y : RL.Aft Y (y9.alloc (.cells #[.int .u8 0, .int .u8 0, .int .u8 0, .int .u8 0, .int .u8 0, .int .u8 0, .int .u8 0, .int .u8 0, .int .u8 0, .int .u8 0, .int .u8 0, .int .u8 0, .int .u8 0, .int .u8 0, .int .u8 0, .int .u8 0, .int .u8 0, .int .u8 0, .int .u8 0, .int .u8 0, .int .u8 0, .int .u8 0, .int .u8 0, .int .u8 0, .int .u8 0, .int .u8 0, .int .u8 0, .int .u8 0, .int .u8 0, .int .u8 0, .int .u8 0, .int .u8 0, .string ⟨#[]⟩] 54)) := RL.Aft.alloc hsy9 _
    generalize hyy9 : y9.alloc (.cells #[.int .u8 0, .int .u8 0, .int .u8 0, .int .u8 0, .int .u8 0, .int .u8 0, .int .u8 0, .int .u8 0, .int .u8 0, .int .u8 0, .int .u8 0, .int .u8 0, .int .u8 0, .int .u8 0, .int .u8 0, .int .u8 0, .int .u8 0, .int .u8 0, .int .u8 0, .int .u8 0, .int .u8 0, .int .u8 0, .int .u8 0, .int .u8 0, .int .u8 0, .int .u8 0, .int .u8 0, .int .u8 0, .int .u8 0, .int .u8 0, .int .u8 0, .int .u8 0, .string ⟨#[]⟩] 54) = y9y at *
    clear htb hba hyy9
    clear hK
    try go_frame
    refine RL.norm #[true, true, true, true, false, false] (by kernel_rfl) ?_
    exact hrest cb tb _ ⟨by assumption, kcb, ktb, gtb⟩
  · refine RL.wp_made (v := .pointer (some ⟨y8.heap.size, 0, none⟩)) (w' := y8.alloc (.cells #[.int .u8 0, .int .u8 0, .int .u8 0, .int .u8 0, .int .u8 0, .int .u8 0, .int .u8 0, .int .u8 0, .int .u8 0, .int .u8 0, .int .u8 0, .int .u8 0, .int .u8 0, .int .u8 0, .int .u8 0, .int .u8 0, .int .u8 0, .int .u8 0, .int .u8 0, .int .u8 0, .int .u8 0, .int .u8 0, .int .u8 0, .int .u8 0, .int .u8 0, .int .u8 0, .int .u8 0, .int .u8 0, .int .u8 0, .int .u8 0, .int .u8 0, .int .u8 0, .string ⟨#[]⟩] 54)) (by go_simp; try rfl) ?_
    obtain ⟨tb, htb⟩ : ∃ n, y8.heap.size = n := ⟨_, rfl⟩
    have hba : Below y8.heap.size y8 (y8.alloc (.cells #[.int .u8 0, .int .u8 0, .int .u8 0, .int .u8 0, .int .u8 0, .int .u8 0, .int .u8 0, .int .u8 0, .int .u8 0, .int .u8 0, .int .u8 0, .int .u8 0, .int .u8 0, .int .u8 0, .int .u8 0, .int .u8 0, .int .u8 0, .int .u8 0, .int .u8 0, .int .u8 0, .int .u8 0, .int .u8 0, .int .u8 0, .int .u8 0, .int .u8 0, .int .u8 0, .int .u8 0, .int .u8 0, .int .u8 0, .int .u8 0, .int .u8 0, .int .u8 0, .string ⟨#[]⟩] 54)) := (Below.refl _ _).alloc (Nat.le_refl _) _
    have ktb : Rg.Blk (y8.alloc (.cells #[.int .u8 0, .int .u8 0, .int .u8 0, .int .u8 0, .int .u8 0, .int .u8 0, .int .u8 0, .int .u8 0, .int .u8 0, .int .u8 0, .int .u8 0, .int .u8 0, .int .u8 0, .int .u8 0, .int .u8 0, .int .u8 0, .int .u8 0, .int .u8 0, .int .u8 0, .int .u8 0, .int .u8 0, .int .u8 0, .int .u8 0, .int .u8 0, .int .u8 0, .int .u8 0, .int .u8 0, .int .u8 0, .int .u8 0, .int .u8 0, .int .u8 0, .int .u8 0, .string ⟨#[]⟩] 54)) tb 54 #[.int .u8 0, .int .u8 0, .int .u8 0, .int .u8 0, .int .u8 0, .int .u8 0, .int .u8 0, .int .u8 0, .int .u8 0, .int .u8 0, .int .u8 0, .int .u8 0, .int .u8 0, .int .u8 0, .int .u8 0, .int .u8 0, .int .u8 0, .int .u8 0, .int .u8 0, .int .u8 0, .int .u8 0, .int .u8 0, .int .u8 0, .int .u8 0, .int .u8 0, .int .u8 0, .int .u8 0, .int .u8 0, .int .u8 0, .int .u8 0, .int .u8 0, .int .u8 0, .string ⟨#[]⟩] := Rg.Blk.newAt htb.symm _ _
    have gtb : Y.heap.size ≤ tb := by rw [← htb]; exact (show RL.Aft Y y8 from hsy8).size
    refine hK.out _ _ (RL.Aft.alloc hsy8 _) ?_
    try rw [htb]
    have hSy8y : RL.Aft Y (y8.alloc (.cells #[.int .u8 0, .int .u8 0, .int .u8 0, .int .u8 0, .int .u8 0, .int .u8 0, .int .u8 0, .int .u8 0, .int .u8 0, .int .u8 0, .int .u8 0, .int .u8 0, .int .u8 0, .int .u8 0, .int .u8 0, .int .u8 0, .int .u8 0, .int .u8 0, .int .u8 0, .int .u8 0, .int .u8 0, .int .u8 0, .int .u8 0, .int .u8 0, .int .u8 0, .int .u8 0, .int .u8 0, .int .u8 0, .int .u8 0, .int .u8 0, .int .u8 0, .int .u8 0, .string ⟨#[]⟩] 54)) := RL.Aft.alloc hsy8 _
    generalize hyy8 : y8.alloc (.cells #[.int .u8 0, .int .u8 0, .int .u8 0, .int .u8 0, .int .u8 0, .int .u8 0, .int .u8 0, .int .u8 0, .int .u8 0, .int .u8 0, .int .u8 0, .int .u8 0, .int .u8 0, .int .u8 0, .int .u8 0, .int .u8 0, .int .u8 0, .int .u8 0, .int .u8 0, .int .u8 0, .int .u8 0, .int .u8 0, .int .u8 0, .int .u8 0, .int .u8 0, .int .u8 0, .int .u8 0, .int .u8 0, .int .u8 0, .int .u8 0, .int .u8 0, .int .u8 0, .string ⟨#[]⟩] 54) = y8y at *
    clear htb hba hyy8
    clear hK
    try go_frame
    refine RL.sk 0 (fun y10 hly10 hsy10 K hK => ?_)
    have ktb := ktb.below hly10 ktb.lt
    refine RL.wp_enter (F := 18) (args := #[]) (by go_simp; try rfl) ?_
    refine (CBE.out y10).mono ?_
    rintro e y10x ⟨⟨cb, hcb, rfl, kcb⟩, hb⟩
    have hSy10x : RL.Aft Y y10x := RL.Aft.lat hsy10 hb
    have ktb := ktb.below hb ktb.lt
    refine ⟨_, rfl, hK.out _ _ (RL.Aft.lat hsy10 hb) ?_⟩
    have kcb : Rg.Blk y10x cb 57 (u64s (els [cd, ct, c1, c2, c3, c4])) := kcb
    clear hK
    try go_frame
    refine' RL.tc 2 (v := (.agg (secV sa pf))) 20 #[.agg (Cv.bytesV seed)] ?hk26 ?hc26 ?_
    case hk26 => (intro W; go_simp; try with_reducible rfl)
    case hc26 => (intro W hSW; exact (HOP.out W (HT.out.below hSW HT.out.size)).mono (fun e w9 h9 => ⟨h9.1, h9.2, RL.Aft.lat hSW h9.2⟩))
    try go_frame
    refine RL.norm #[true, true, true, true, false, false] (by kernel_rfl) ?_
    exact hrest cb tb _ ⟨by assumption, kcb, ktb, gtb⟩
 case hrrq7 =>
  rintro cb tb Z0 ⟨ha0, kcb, hZ, gtb⟩
  have Ftb := ϕ gtb
  refine' RL.tv 4 ?hk27 ?_
  case hk27 => (intro W hSW; go_simp; try with_reducible rfl)
  try go_frame
  refine RL.sk 5 (fun va hlva hsva K hK => ?_)
  have hZ := hZ.below hlva hZ.lt
  have kcb := kcb.below hlva kcb.lt
  refine store_blk_op 54 _ _ rfl tb (secV sa pf) _ 54 rfl (by rfl) hZ (by rw [secV_size, HSL.out]; kernel_rfl) (by rw [secV_size, HSL.out]; rfl) (secV_one _ _) ?_
  intro Y9 hY hgY
  have kcb := blk_other kcb hgY (fun e => by subst e; exact cb_ne_tb kcb hZ)
  refine hK.out _ _ (Below.grown hsva hgY (Below.size hsva) (fun k hk => by cases hk; exact Ftb.out)) ?_
  clear hK
  try go_frame
  refine RL.done (by kernel_rfl) (fun Z1 hlZ1 hsZ1 => ?_)
  have Htb := ϕ (show Rg.Blk Z1 tb 54 (secV sa pf) from hY.below hlZ1 hY.lt)
  have Hcb := ϕ (show Rg.Blk Z1 cb 57 (u64s (els [cd, ct, c1, c2, c3, c4])) from kcb.below hlZ1 kcb.lt)
  clear hZ hY hgY hlva hsva kcb ha0 gtb Ftb
  have HA := ϕ (show RL.Aft Y Z1 from hsZ1)
  have Hrb := ϕ (aft_blk HA.out Hrb.out)
  have HT := ϕ (HT.out.below HA.out HT.out.size)
  have HO := ϕ (HO.out.below HA.out HO.out.size)
  have HB := ϕ (HB.out.trans (Below.mono HA.out HB.out.size))
  clear HA hsZ1 hlZ1 Hsb
  go_upto_region 2 with fail
  refine RL.start (RL.Aft Z1) (by kernel_rfl) (RL.Aft.drew (RL.Aft.refl Z1)) ?_
  refine' RL.tv 0 ?hk28 ?_
  case hk28 => (intro W hSW; go_simp; try with_reducible rfl)
  try go_frame
  refine' RL.tv 1 ?hk29 ?_
  case hk29 => (intro W hSW; go_simp; try with_reducible rfl)
  try go_frame
  refine RL.tw 2 (v := .agg (Cv.bytesV sa)) rfl (fun W hSW => run_at 22 _ rfl tb 0 rfl (Cv.bytesV sa) (fun j v hv => by rw [Nat.zero_add]; exact (aft_blk hSW Htb.out).cell j (secV_get hv)) Tryz.underlying22 rfl (by rw [Cv.bytesV_size, HSL.out]; kernel_rfl)) ?_
  try go_frame
  refine' RL.tv 3 ?hk30 ?_
  case hk30 => (intro W hSW; go_simp; try with_reducible rfl)
  try go_frame
  refine' RL.tv 4 ?hk31 ?_
  case hk31 => (intro W hSW; go_simp; try with_reducible rfl)
  try go_frame
  refine' RL.tv 5 ?hk32 ?_
  case hk32 => (intro W hSW; go_simp; try with_reducible rfl)
  try go_frame
  refine RL.tw 6 (v := .agg (u64s (els [c1, c2, c3, c4]))) rfl (fun W hSW => run_at 51 _ rfl cb 10 rfl (u64s (els [c1, c2, c3, c4])) (els_at (aft_blk hSW Hcb.out) 2 10 [c1, c2, c3, c4] rfl rfl (by simp)) Tryz.underlying51 rfl (by kernel_rfl)) ?_
  try go_frame
  refine' RL.tc 7 (v := (.agg (u64s (els [R1.x, R1.y, R1.z, R1.t])))) 19 #[.pointer (some ⟨cb, 0, none⟩), .agg (Cv.bytesV sa), .agg (u64s (els [c1, c2, c3, c4]))] ?hk33 ?hc33 ?_
  case hk33 => (intro W; go_simp; try with_reducible rfl)
  case hc33 => (intro W hSW; exact (CM1.out cb W (aft_blk hSW Hcb.out)).mono (fun e w9 h9 => ⟨h9.1, h9.2, RL.Aft.lat hSW h9.2⟩))
  try go_frame
  refine' RL.tc 8 (v := (.agg (Cv.bytesV ke))) 21 #[.agg (u64s (els [R1.x, R1.y, R1.z, R1.t]))] ?hk34 ?hc34 ?_
  case hk34 => (intro W; go_simp; try with_reducible rfl)
  case hc34 => (intro W hSW; exact (CB1.out W).mono (fun e w9 h9 => ⟨h9.1, h9.2, RL.Aft.lat hSW h9.2⟩))
  try go_frame
  refine RL.sk 9 (fun wa hlwa hswa K hK => ?_)
  go_simp
  obtain ⟨kb, hkb⟩ : ∃ n, wa.heap.size = n := ⟨_, rfl⟩
  have hZ := Rg.Blk.newAt hkb.symm z32 22
  have Fkb := ϕ (show Z1.heap.size ≤ kb from hkb ▸ Below.size hswa)
  refine hK.out _ _ (RL.Aft.alloc hswa _) ?_
  try rw [hkb]
  clear hK hkb
  try go_frame
  refine RL.sk 10 (fun va hlva hsva K hK => ?_)
  have hZ := hZ.below hlva hZ.lt
  refine store_blk_op 22 _ _ rfl kb (Cv.bytesV ke) _ 22 rfl (by rfl) hZ (by rw [Cv.bytesV_size, HKL.out]; kernel_rfl) (by rw [Cv.bytesV_size, HKL.out]; rfl) (Cv.bytesV_one _) ?_
  intro Y9 hY hgY
  refine hK.out _ _ (Below.grown hsva hgY (Below.size hsva) (fun k hk => by cases hk; exact Fkb.out)) ?_
  clear hK
  try go_frame
  refine RL.done (by kernel_rfl) (fun Z2 hlZ2 hsZ2 => ?_)
  have Hkb := ϕ (show Rg.Blk Z2 kb 22 (Cv.bytesV ke) from hY.below hlZ2 hY.lt)
  clear hZ hY hgY hlva hsva
  have HA := ϕ (show RL.Aft Z1 Z2 from hsZ2)
  have Hrb := ϕ (aft_blk HA.out Hrb.out)
  have Hcb := ϕ (aft_blk HA.out Hcb.out)
  have Htb := ϕ (aft_blk HA.out Htb.out)
  have HT := ϕ (HT.out.below HA.out HT.out.size)
  have HO := ϕ (HO.out.below HA.out HO.out.size)
  have HB := ϕ (HB.out.trans (Below.mono HA.out HB.out.size))
  clear HA hsZ2 hlZ2
  have xs := Htb.out.cell 32 (HSL.out ▸ secV_str sa pf)
  go_upto_region 4 with (first
   | (go_at_call 28; refine (HR1.out _ _ (HT.out.below ((Below.refl _ _).alloc (Nat.le_refl _) _) HT.out.size) (HO.out.below ((Below.refl _ _).alloc (Nat.le_refl _) _) HO.out.size) (parts_n _ _ [_, _] (by simp) 2 rfl)).mono ?_; rintro e w3 ⟨rfl, hb1⟩; have hb2 := (Below.alloc (Below.refl Z2.heap.size Z2) (Nat.le_refl _) _).trans (hb1.mono (by simp)); have Hrb := ϕ (Hrb.out.below hb2 Hrb.out.lt); have Hcb := ϕ (Hcb.out.below hb2 Hcb.out.lt); have Htb := ϕ (Htb.out.below hb2 Htb.out.lt); have Hkb := ϕ (Hkb.out.below hb2 Hkb.out.lt); have HT := ϕ (HT.out.below hb2 HT.out.size); have HO := ϕ (HO.out.below hb2 HO.out.size); have HB := tm HB hb2; clear hb1 hb2)
   | (refine Rg.store_fresh rfl 22 _ _ rfl (Cv.bytesV rr) _ 22 rfl rfl (by rw [Cv.bytesV_size, HRL.out]; kernel_rfl) (by rw [Cv.bytesV_size, HRL.out]; rfl) (Cv.bytesV_one _) ?_; intro Z3 hX hbX; have Hmb := ϕ hX; have Hrb := ϕ (Hrb.out.below hbX Hrb.out.lt); have Hcb := ϕ (Hcb.out.below hbX Hcb.out.lt); have Htb := ϕ (Htb.out.below hbX Htb.out.lt); have Hkb := ϕ (Hkb.out.below hbX Hkb.out.lt); have HT := ϕ (HT.out.below hbX HT.out.size); have HO := ϕ (HO.out.below hbX HO.out.size); have HB := tm HB hbX; clear hX hbX))
  obtain ⟨mb, hmb⟩ : ∃ n, w3.heap.size = n := ⟨_, rfl⟩
  have Hmb := ϕ (show Rg.Blk Z3 mb 22 (Cv.bytesV rr) from hmb ▸ Hmb.out)
  try rw [hmb]
  clear hmb xs
  refine RL.start (RL.Aft Z3) (by kernel_rfl) (RL.Aft.drew (RL.Aft.refl Z3)) ?_
  refine' RL.tv 0 ?hk35 ?_
  case hk35 => (intro W hSW; go_simp; try with_reducible rfl)
  try go_frame
  refine RL.tw 1 (v := .agg (Cv.bytesV rr)) rfl (fun W hSW => RT.run_row 22 _ rfl _ rfl _ _ (aft_blk hSW Hmb.out) Tryz.underlying22 rfl (by rw [Cv.bytesV_size, HRL.out]; kernel_rfl)) ?_
  try go_frame
  refine' RL.tv 2 ?hk36 ?_
  case hk36 => (intro W hSW; go_simp; try with_reducible rfl)
  try go_frame
  refine' RL.tv 3 ?hk37 ?_
  case hk37 => (intro W hSW; go_simp; try with_reducible rfl)
  try go_frame
  refine' RL.tv 4 ?hk38 ?_
  case hk38 => (intro W hSW; go_simp; try with_reducible rfl)
  try go_frame
  refine RL.tw 5 (v := .agg (u64s (els [c1, c2, c3, c4]))) rfl (fun W hSW => run_at 51 _ rfl cb 10 rfl (u64s (els [c1, c2, c3, c4])) (els_at (aft_blk hSW Hcb.out) 2 10 [c1, c2, c3, c4] rfl rfl (by simp)) Tryz.underlying51 rfl (by kernel_rfl)) ?_
  try go_frame
  refine' RL.tc 6 (v := (.agg (u64s (els [R2.x, R2.y, R2.z, R2.t])))) 19 #[.pointer (some ⟨cb, 0, none⟩), .agg (Cv.bytesV rr), .agg (u64s (els [c1, c2, c3, c4]))] ?hk39 ?hc39 ?_
  case hk39 => (intro W; go_simp; try with_reducible rfl)
  case hc39 => (intro W hSW; exact (CM2.out cb W (aft_blk hSW Hcb.out)).mono (fun e w9 h9 => ⟨h9.1, h9.2, RL.Aft.lat hSW h9.2⟩))
  try go_frame
  refine' RL.tc 7 (v := (.agg (Cv.bytesV rp))) 21 #[.agg (u64s (els [R2.x, R2.y, R2.z, R2.t]))] ?hk40 ?hc40 ?_
  case hk40 => (intro W; go_simp; try with_reducible rfl)
  case hc40 => (intro W hSW; exact (CB2.out W).mono (fun e w9 h9 => ⟨h9.1, h9.2, RL.Aft.lat hSW h9.2⟩))
  try go_frame
  refine RL.sk 8 (fun wa hlwa hswa K hK => ?_)
  go_simp
  obtain ⟨hb, hhb⟩ : ∃ n, wa.heap.size = n := ⟨_, rfl⟩
  have hZ := Rg.Blk.newAt hhb.symm z32 22
  have Fhb := ϕ (show Z3.heap.size ≤ hb from hhb ▸ Below.size hswa)
  refine hK.out _ _ (RL.Aft.alloc hswa _) ?_
  try rw [hhb]
  clear hK hhb
  try go_frame
  refine RL.sk 9 (fun va hlva hsva K hK => ?_)
  have hZ := hZ.below hlva hZ.lt
  refine store_blk_op 22 _ _ rfl hb (Cv.bytesV rp) _ 22 rfl (by rfl) hZ (by rw [Cv.bytesV_size, HAL.out]; kernel_rfl) (by rw [Cv.bytesV_size, HAL.out]; rfl) (Cv.bytesV_one _) ?_
  intro Y9 hY hgY
  refine hK.out _ _ (Below.grown hsva hgY (Below.size hsva) (fun k hk => by cases hk; exact Fhb.out)) ?_
  clear hK
  try go_frame
  refine RL.done (by kernel_rfl) (fun Z4 hlZ4 hsZ4 => ?_)
  have Hhb := ϕ (show Rg.Blk Z4 hb 22 (Cv.bytesV rp) from hY.below hlZ4 hY.lt)
  clear hZ hY hgY hlva hsva
  have HA := ϕ (show RL.Aft Z3 Z4 from hsZ4)
  have Hrb := ϕ (aft_blk HA.out Hrb.out)
  have Htb := ϕ (aft_blk HA.out Htb.out)
  have Hkb := ϕ (aft_blk HA.out Hkb.out)
  have Hmb := ϕ (aft_blk HA.out Hmb.out)
  have HT := ϕ (HT.out.below HA.out HT.out.size)
  have HO := ϕ (HO.out.below HA.out HO.out.size)
  have HB := ϕ (HB.out.trans (Below.mono HA.out HB.out.size))
  clear HA hsZ4 hlZ4
  go_upto_region 5 with fail
  refine RL.start (RL.Aft Z4) (by kernel_rfl) (RL.Aft.drew (RL.Aft.refl Z4)) ?_
  refine' RL.tv 0 ?hk41 ?_
  case hk41 => (intro W hSW; go_simp; try with_reducible rfl)
  try go_frame
  refine' RL.tv 1 ?hk42 ?_
  case hk42 => (intro W hSW; have x1 := Cv.run_string_len (P := Tryz.prog) W 25 5 9 Tryz.underlying25 Tryz.underlying5 Tryz.underlying9 hb 0 32 32 rp HAL.out (Cv.Bytes.of_blk (aft_blk hSW Hhb.out)); go_simp; try with_reducible rfl)
  try go_frame
  refine' RL.tv 2 ?hk43 ?_
  case hk43 => (intro W hSW; go_simp; try with_reducible rfl)
  try go_frame
  refine' RL.tv 3 ?hk44 ?_
  case hk44 => (intro W hSW; have x1 := Cv.run_string_len (P := Tryz.prog) W 25 5 9 Tryz.underlying25 Tryz.underlying5 Tryz.underlying9 kb 0 32 32 ke HKL.out (Cv.Bytes.of_blk (aft_blk hSW Hkb.out)); go_simp; try with_reducible rfl)
  try go_frame
  refine' RL.tv 4 ?hk45 ?_
  case hk45 => (intro W hSW; go_simp; try with_reducible rfl)
  try go_frame
  refine' RL.tv 7 ?hk46 ?_
  case hk46 => (intro W hSW; go_simp; try with_reducible rfl)
  try go_frame
  refine RL.tw 8 (v := .agg (Cv.bytesV sa)) rfl (fun W hSW => run_at 22 _ rfl tb 0 rfl (Cv.bytesV sa) (fun j v hv => by rw [Nat.zero_add]; exact (aft_blk hSW Htb.out).cell j (secV_get hv)) Tryz.underlying22 rfl (by rw [Cv.bytesV_size, HSL.out]; kernel_rfl)) ?_
  try go_frame
  refine RL.tw 9 (v := .agg (Cv.bytesV rr)) rfl (fun W hSW => RT.run_row 22 _ rfl _ rfl _ _ (aft_blk hSW Hmb.out) Tryz.underlying22 rfl (by rw [Cv.bytesV_size, HRL.out]; kernel_rfl)) ?_
  try go_frame
  refine' RL.rest_of (T := ?TTq11) (fun gb xb W => RL.Aft Z4 W ∧ Rg.Blk W xb 22 z32 ∧ Z4.heap.size ≤ xb) ?hmainq11 ?hrrq11
  case hmainq11 =>
   intro hrest
   refine RL.step2 (i := 5) (j := 11) rfl rfl (by kernel_rfl) (by rfl) (by rfl) (fun y12 hly12 hsy12 K hK => ?_) (fun y12 hly12 hsy12 K hK => ?_)
   · refine RL.wp_made (v := .slice (some ⟨y12.heap.size, 0, none⟩) 3 3) (w' := y12.alloc (.cells #[.string ⟨rp.toArray⟩, .string ⟨ke.toArray⟩, .string (bs m)] 9)) (by go_simp; try rfl) ?_
     obtain ⟨gb, hgb⟩ : ∃ n, y12.heap.size = n := ⟨_, rfl⟩
     have hba : Below y12.heap.size y12 (y12.alloc (.cells #[.string ⟨rp.toArray⟩, .string ⟨ke.toArray⟩, .string (bs m)] 9)) := (Below.refl _ _).alloc (Nat.le_refl _) _
     have kgb : Rg.Blk (y12.alloc (.cells #[.string ⟨rp.toArray⟩, .string ⟨ke.toArray⟩, .string (bs m)] 9)) gb 9 #[.string ⟨rp.toArray⟩, .string ⟨ke.toArray⟩, .string (bs m)] := Rg.Blk.newAt hgb.symm _ _
     have ggb : Z4.heap.size ≤ gb := by rw [← hgb]; exact (show RL.Aft Z4 y12 from hsy12).size
     refine hK.out _ _ (RL.Aft.alloc hsy12 _) ?_
     try rw [hgb]
     have hSy12y : RL.Aft Z4 (y12.alloc (.cells #[.string ⟨rp.toArray⟩, .string ⟨ke.toArray⟩, .string (bs m)] 9)) := RL.Aft.alloc hsy12 _
     generalize hyy12 : y12.alloc (.cells #[.string ⟨rp.toArray⟩, .string ⟨ke.toArray⟩, .string (bs m)] 9) = y12y at *
     clear hgb hba hyy12
     clear hK
     try go_frame
     refine RL.step2 (i := 6) (j := 11) rfl rfl (by kernel_rfl) (by rfl) (by rfl) (fun y13 hly13 hsy13 K hK => ?_) (fun y13 hly13 hsy13 K hK => ?_)
     · have kgb := kgb.below hly13 kgb.lt
       refine RL.wp_enter (F := 28) (args := #[.slice (some ⟨gb, 0, none⟩) 3 3]) (by go_simp; try rfl) ?_
       refine (HR2.out y13 _ (HT.out.below hsy13 HT.out.size) (HO.out.below hsy13 HO.out.size) (parts_blk [_, _, _] kgb 3 rfl)).mono ?_
       rintro e y13x ⟨rfl, hb⟩
       have hSy13x : RL.Aft Z4 y13x := RL.Aft.lat hsy13 hb
       have kgb := kgb.below hb kgb.lt
       refine ⟨_, rfl, hK.out _ _ (RL.Aft.lat hsy13 hb) ?_⟩
       clear hK
       try go_frame
       refine' RL.tc 10 (v := (.agg (Cv.bytesV ss))) 29 #[.agg (Cv.bytesV kk), .agg (Cv.bytesV sa), .agg (Cv.bytesV rr)] ?hk47 ?hc47 ?_
       case hk47 => (intro W; go_simp; try with_reducible rfl)
       case hc47 => (intro W hSW; exact (CMA.out W (HO.out.below hSW HO.out.size)).mono (fun e w9 h9 => ⟨h9.1, h9.2, RL.Aft.lat hSW h9.2⟩))
       try go_frame
       refine RL.sk 11 (fun y14 hly14 hsy14 K hK => ?_)
       have kgb := kgb.below hly14 kgb.lt
       refine RL.wp_made (v := .pointer (some ⟨y14.heap.size, 0, none⟩)) (w' := y14.alloc (.cells z32 22)) (by go_simp; try rfl) ?_
       obtain ⟨xb, hxb⟩ : ∃ n, y14.heap.size = n := ⟨_, rfl⟩
       have hba : Below y14.heap.size y14 (y14.alloc (.cells z32 22)) := (Below.refl _ _).alloc (Nat.le_refl _) _
       have kxb : Rg.Blk (y14.alloc (.cells z32 22)) xb 22 z32 := Rg.Blk.newAt hxb.symm _ _
       have gxb : Z4.heap.size ≤ xb := by rw [← hxb]; exact (show RL.Aft Z4 y14 from hsy14).size
       have kgb := kgb.below hba kgb.lt
       refine hK.out _ _ (RL.Aft.alloc hsy14 _) ?_
       try rw [hxb]
       have hSy14y : RL.Aft Z4 (y14.alloc (.cells z32 22)) := RL.Aft.alloc hsy14 _
       generalize hyy14 : y14.alloc (.cells z32 22) = y14y at *
       clear hxb hba hyy14
       clear hK
       try go_frame
       refine RL.norm #[true, true, true, true, true, true, true, true, true, true, true, true, false] (by kernel_rfl) ?_
       exact hrest gb xb _ ⟨by assumption, kxb, gxb⟩
     · have kgb := kgb.below hly13 kgb.lt
       refine RL.wp_made (v := .pointer (some ⟨y13.heap.size, 0, none⟩)) (w' := y13.alloc (.cells z32 22)) (by go_simp; try rfl) ?_
       obtain ⟨xb, hxb⟩ : ∃ n, y13.heap.size = n := ⟨_, rfl⟩
       have hba : Below y13.heap.size y13 (y13.alloc (.cells z32 22)) := (Below.refl _ _).alloc (Nat.le_refl _) _
       have kxb : Rg.Blk (y13.alloc (.cells z32 22)) xb 22 z32 := Rg.Blk.newAt hxb.symm _ _
       have gxb : Z4.heap.size ≤ xb := by rw [← hxb]; exact (show RL.Aft Z4 y13 from hsy13).size
       have kgb := kgb.below hba kgb.lt
       refine hK.out _ _ (RL.Aft.alloc hsy13 _) ?_
       try rw [hxb]
       have hSy13y : RL.Aft Z4 (y13.alloc (.cells z32 22)) := RL.Aft.alloc hsy13 _
       generalize hyy13 : y13.alloc (.cells z32 22) = y13y at *
       clear hxb hba hyy13
       clear hK
       try go_frame
       refine RL.sk 6 (fun y15 hly15 hsy15 K hK => ?_)
       have kgb := kgb.below hly15 kgb.lt
       have kxb := kxb.below hly15 kxb.lt
       refine RL.wp_enter (F := 28) (args := #[.slice (some ⟨gb, 0, none⟩) 3 3]) (by go_simp; try rfl) ?_
       refine (HR2.out y15 _ (HT.out.below hsy15 HT.out.size) (HO.out.below hsy15 HO.out.size) (parts_blk [_, _, _] kgb 3 rfl)).mono ?_
       rintro e y15x ⟨rfl, hb⟩
       have hSy15x : RL.Aft Z4 y15x := RL.Aft.lat hsy15 hb
       have kgb := kgb.below hb kgb.lt
       have kxb := kxb.below hb kxb.lt
       refine ⟨_, rfl, hK.out _ _ (RL.Aft.lat hsy15 hb) ?_⟩
       clear hK
       try go_frame
       refine' RL.tc 10 (v := (.agg (Cv.bytesV ss))) 29 #[.agg (Cv.bytesV kk), .agg (Cv.bytesV sa), .agg (Cv.bytesV rr)] ?hk48 ?hc48 ?_
       case hk48 => (intro W; go_simp; try with_reducible rfl)
       case hc48 => (intro W hSW; exact (CMA.out W (HO.out.below hSW HO.out.size)).mono (fun e w9 h9 => ⟨h9.1, h9.2, RL.Aft.lat hSW h9.2⟩))
       try go_frame
       refine RL.norm #[true, true, true, true, true, true, true, true, true, true, true, true, false] (by kernel_rfl) ?_
       exact hrest gb xb _ ⟨by assumption, kxb, gxb⟩
   · refine RL.wp_made (v := .pointer (some ⟨y12.heap.size, 0, none⟩)) (w' := y12.alloc (.cells z32 22)) (by go_simp; try rfl) ?_
     obtain ⟨xb, hxb⟩ : ∃ n, y12.heap.size = n := ⟨_, rfl⟩
     have hba : Below y12.heap.size y12 (y12.alloc (.cells z32 22)) := (Below.refl _ _).alloc (Nat.le_refl _) _
     have kxb : Rg.Blk (y12.alloc (.cells z32 22)) xb 22 z32 := Rg.Blk.newAt hxb.symm _ _
     have gxb : Z4.heap.size ≤ xb := by rw [← hxb]; exact (show RL.Aft Z4 y12 from hsy12).size
     refine hK.out _ _ (RL.Aft.alloc hsy12 _) ?_
     try rw [hxb]
     have hSy12y : RL.Aft Z4 (y12.alloc (.cells z32 22)) := RL.Aft.alloc hsy12 _
     generalize hyy12 : y12.alloc (.cells z32 22) = y12y at *
     clear hxb hba hyy12
     clear hK
     try go_frame
     refine RL.sk 5 (fun y16 hly16 hsy16 K hK => ?_)
     have kxb := kxb.below hly16 kxb.lt
     refine RL.wp_made (v := .slice (some ⟨y16.heap.size, 0, none⟩) 3 3) (w' := y16.alloc (.cells #[.string ⟨rp.toArray⟩, .string ⟨ke.toArray⟩, .string (bs m)] 9)) (by go_simp; try rfl) ?_
     obtain ⟨gb, hgb⟩ : ∃ n, y16.heap.size = n := ⟨_, rfl⟩
     have hba : Below y16.heap.size y16 (y16.alloc (.cells #[.string ⟨rp.toArray⟩, .string ⟨ke.toArray⟩, .string (bs m)] 9)) := (Below.refl _ _).alloc (Nat.le_refl _) _
     have kgb : Rg.Blk (y16.alloc (.cells #[.string ⟨rp.toArray⟩, .string ⟨ke.toArray⟩, .string (bs m)] 9)) gb 9 #[.string ⟨rp.toArray⟩, .string ⟨ke.toArray⟩, .string (bs m)] := Rg.Blk.newAt hgb.symm _ _
     have ggb : Z4.heap.size ≤ gb := by rw [← hgb]; exact (show RL.Aft Z4 y16 from hsy16).size
     have kxb := kxb.below hba kxb.lt
     refine hK.out _ _ (RL.Aft.alloc hsy16 _) ?_
     try rw [hgb]
     have hSy16y : RL.Aft Z4 (y16.alloc (.cells #[.string ⟨rp.toArray⟩, .string ⟨ke.toArray⟩, .string (bs m)] 9)) := RL.Aft.alloc hsy16 _
     generalize hyy16 : y16.alloc (.cells #[.string ⟨rp.toArray⟩, .string ⟨ke.toArray⟩, .string (bs m)] 9) = y16y at *
     clear hgb hba hyy16
     clear hK
     try go_frame
     refine RL.sk 6 (fun y17 hly17 hsy17 K hK => ?_)
     have kxb := kxb.below hly17 kxb.lt
     have kgb := kgb.below hly17 kgb.lt
     refine RL.wp_enter (F := 28) (args := #[.slice (some ⟨gb, 0, none⟩) 3 3]) (by go_simp; try rfl) ?_
     refine (HR2.out y17 _ (HT.out.below hsy17 HT.out.size) (HO.out.below hsy17 HO.out.size) (parts_blk [_, _, _] kgb 3 rfl)).mono ?_
     rintro e y17x ⟨rfl, hb⟩
     have hSy17x : RL.Aft Z4 y17x := RL.Aft.lat hsy17 hb
     have kxb := kxb.below hb kxb.lt
     have kgb := kgb.below hb kgb.lt
     refine ⟨_, rfl, hK.out _ _ (RL.Aft.lat hsy17 hb) ?_⟩
     clear hK
     try go_frame
     refine' RL.tc 10 (v := (.agg (Cv.bytesV ss))) 29 #[.agg (Cv.bytesV kk), .agg (Cv.bytesV sa), .agg (Cv.bytesV rr)] ?hk49 ?hc49 ?_
     case hk49 => (intro W; go_simp; try with_reducible rfl)
     case hc49 => (intro W hSW; exact (CMA.out W (HO.out.below hSW HO.out.size)).mono (fun e w9 h9 => ⟨h9.1, h9.2, RL.Aft.lat hSW h9.2⟩))
     try go_frame
     refine RL.norm #[true, true, true, true, true, true, true, true, true, true, true, true, false] (by kernel_rfl) ?_
     exact hrest gb xb _ ⟨by assumption, kxb, gxb⟩
  case hrrq11 =>
   rintro gb xb Z0 ⟨ha0, hZ, gxb⟩
   have Fxb := ϕ gxb
   refine RL.sk 12 (fun va hlva hsva K hK => ?_)
   have hZ := hZ.below hlva hZ.lt
   refine store_blk_op 22 _ _ rfl xb (Cv.bytesV ss) _ 22 rfl (by rfl) hZ (by rw [Cv.bytesV_size, HSS.out]; kernel_rfl) (by rw [Cv.bytesV_size, HSS.out]; rfl) (Cv.bytesV_one _) ?_
   intro Y9 hY hgY
   refine hK.out _ _ (Below.grown hsva hgY (Below.size hsva) (fun k hk => by cases hk; exact Fxb.out)) ?_
   clear hK
   try go_frame
   refine RL.done (by kernel_rfl) (fun Z5 hlZ5 hsZ5 => ?_)
   have Hxb := ϕ (show Rg.Blk Z5 xb 22 (Cv.bytesV ss) from hY.below hlZ5 hY.lt)
   clear hZ hY hgY hlva hsva
   have HA := ϕ (show RL.Aft Z4 Z5 from hsZ5)
   have Hrb := ϕ (aft_blk HA.out Hrb.out)
   have Hhb := ϕ (aft_blk HA.out Hhb.out)
   have HB := ϕ (HB.out.trans (Below.mono HA.out HB.out.size))
   clear HA hsZ5 hlZ5
   go_upto_region 7 with fail
   obtain ⟨ob, hob⟩ : ∃ n, Z5.heap.size = n := ⟨_, rfl⟩
   obtain ⟨Z6, hZ6⟩ : ∃ Z, (Z5.alloc (.cells #[.int .u8 0, .int .u8 0, .int .u8 0, .int .u8 0, .int .u8 0, .int .u8 0, .int .u8 0, .int .u8 0, .int .u8 0, .int .u8 0, .int .u8 0, .int .u8 0, .int .u8 0, .int .u8 0, .int .u8 0, .int .u8 0, .int .u8 0, .int .u8 0, .int .u8 0, .int .u8 0, .int .u8 0, .int .u8 0, .int .u8 0, .int .u8 0, .int .u8 0, .int .u8 0, .int .u8 0, .int .u8 0, .int .u8 0, .int .u8 0, .int .u8 0, .int .u8 0, .int .u8 0, .int .u8 0, .int .u8 0, .int .u8 0, .int .u8 0, .int .u8 0, .int .u8 0, .int .u8 0, .int .u8 0, .int .u8 0, .int .u8 0, .int .u8 0, .int .u8 0, .int .u8 0, .int .u8 0, .int .u8 0, .int .u8 0, .int .u8 0, .int .u8 0, .int .u8 0, .int .u8 0, .int .u8 0, .int .u8 0, .int .u8 0, .int .u8 0, .int .u8 0, .int .u8 0, .int .u8 0, .int .u8 0, .int .u8 0, .int .u8 0, .int .u8 0] 29)) = Z := ⟨_, rfl⟩
   have Hob := ϕ (show Rg.Blk Z6 ob 29 (Cv.bytesV (List.replicate 64 0)) from by rw [z64b, ← hZ6]; exact Rg.Blk.newAt hob.symm _ _)
   have GO := ϕ (show w.heap.size ≤ ob from hob ▸ HB.out.size)
   have NN := ϕ (show ¬ rb = ob ∧ ¬ hb = ob ∧ ¬ xb = ob from by have h1 := Hrb.out.lt; have h2 := Hhb.out.lt; have h3 := Hxb.out.lt; omega)
   have hba : Below Z5.heap.size Z5 Z6 := by rw [← hZ6]; exact (Below.refl _ _).alloc (Nat.le_refl _) _
   have Hrb := ϕ (Hrb.out.below hba Hrb.out.lt)
   have Hhb := ϕ (Hhb.out.below hba Hhb.out.lt)
   have Hxb := ϕ (Hxb.out.below hba Hxb.out.lt)
   have HB := tm HB hba
   rw [hZ6]
   try rw [hob]
   clear hob HT HO Hcb Htb Hkb Hmb hba hZ6
   refine RL.start (fun W => Sp.Upd Z6 W [ob]) (by kernel_rfl) (Sp.Upd.trans (Sp.Upd.refl _ _) (Sp.Upd.of_below (Below.drew (Below.refl _ _))) (by simp)) ?_
   refine' RL.tv 0 ?hk50 ?_
   case hk50 => (intro W hSW; go_simp; try with_reducible rfl)
   try go_frame
   refine' RL.tv 1 ?hk51 ?_
   case hk51 => (intro W hSW; go_simp; try with_reducible rfl)
   try go_frame
   refine RL.sk 2 (fun va hlva hsva K hK => ?_)
   have hO := (Hob.out.below (Below.drew (Below.refl _ _)) Hob.out.lt).below hlva (by have := Hob.out.lt; simpa using this)
   have hS := upd_blk hsva Hhb.out (by simp; exact NN.out.2.1)
   refine copy_op _ _ 25 25 5 rfl (off := 0) rfl rfl Tryz.underlying25 (by kernel_rfl) hO (src := rp) (Cv.Bytes.of_blk hS) (by rw [HAL.out]; rfl) (by rw [HAL.out]; simp [HAL.out]) ?_
   intro Y9 v9 hY hgY
   refine hK.out _ _ (Sp.Upd.trans hsva (Sp.Upd.of_grown1 hgY) (fun q hq => .inl hq)) ?_
   clear hK
   try go_frame
   refine RL.done (by kernel_rfl) (fun Z7 hlZ7 hsZ7 => ?_)
   have Hob := ϕ (show Rg.Blk Z7 ob 29 (Cv.bytesV (rp ++ List.replicate 32 0)) from EQ1.out ▸ hY.below hlZ7 hY.lt)
   have Hrb := ϕ (upd_blk hsZ7 Hrb.out (by simp; exact NN.out.1))
   have Hxb := ϕ (upd_blk hsZ7 Hxb.out (by simp; exact NN.out.2.2))
   have HB := ϕ (below_upd HB.out hsZ7 (fun k hk => by simp at hk; rw [hk]; exact GO.out) HB.out.size)
   clear hO hS hY hgY hlva hsva hsZ7 hlZ7
   go_upto_region 8 with fail
   refine RL.start (fun W => Sp.Upd Z7 W [ob]) (by kernel_rfl) (Sp.Upd.trans (Sp.Upd.refl _ _) (Sp.Upd.of_below (Below.drew (Below.refl _ _))) (by simp)) ?_
   refine' RL.tv 0 ?hk52 ?_
   case hk52 => (intro W hSW; go_simp; try with_reducible rfl)
   try go_frame
   refine' RL.tv 1 ?hk53 ?_
   case hk53 => (intro W hSW; go_simp; try with_reducible rfl)
   try go_frame
   refine RL.sk 2 (fun va hlva hsva K hK => ?_)
   have hO := (Hob.out.below (Below.drew (Below.refl _ _)) Hob.out.lt).below hlva (by have := Hob.out.lt; simpa using this)
   have hS := upd_blk hsva Hxb.out (by simp; exact NN.out.2.2)
   refine copy_op _ _ 25 25 5 rfl (off := 32) rfl rfl Tryz.underlying25 (by kernel_rfl) hO (src := ss) (Cv.Bytes.of_blk hS) (by rw [HSS.out]; rfl) (by rw [HSS.out]; simp [HAL.out]) ?_
   intro Y9 v9 hY hgY
   refine hK.out _ _ (Sp.Upd.trans hsva (Sp.Upd.of_grown1 hgY) (fun q hq => .inl hq)) ?_
   clear hK
   try go_frame
   refine RL.done (by kernel_rfl) (fun Z8 hlZ8 hsZ8 => ?_)
   have Hob := ϕ (show Rg.Blk Z8 ob 29 (Cv.bytesV (rp ++ ss)) from EQ2.out ▸ hY.below hlZ8 hY.lt)
   have Hrb := ϕ (upd_blk hsZ8 Hrb.out (by simp; exact NN.out.1))
   have HB := ϕ (below_upd HB.out hsZ8 (fun k hk => by simp at hk; rw [hk]; exact GO.out) HB.out.size)
   clear hO hS hY hgY hlva hsva hsZ8 hlZ8
   go_wp2_with (first
    | ((with_reducible refine gate_ ?_); refine Cv.load_cells rfl 29 _ rfl ob 0 rfl (Cv.bytesV (rp ++ ss)) _ (fun j v hv => by rw [Nat.zero_add]; exact Hob.out.cell j hv) Tryz.underlying29 rfl (by rw [Cv.bytesV_size, HGL.out]; kernel_rfl) ?_)
    | ((with_reducible refine gate_ ?_); refine Cv.store_blk rfl 29 _ _ rfl rb (Cv.bytesV (rp ++ ss)) (#[.int .u8 0, .int .u8 0, .int .u8 0, .int .u8 0, .int .u8 0, .int .u8 0, .int .u8 0, .int .u8 0, .int .u8 0, .int .u8 0, .int .u8 0, .int .u8 0, .int .u8 0, .int .u8 0, .int .u8 0, .int .u8 0, .int .u8 0, .int .u8 0, .int .u8 0, .int .u8 0, .int .u8 0, .int .u8 0, .int .u8 0, .int .u8 0, .int .u8 0, .int .u8 0, .int .u8 0, .int .u8 0, .int .u8 0, .int .u8 0, .int .u8 0, .int .u8 0, .int .u8 0, .int .u8 0, .int .u8 0, .int .u8 0, .int .u8 0, .int .u8 0, .int .u8 0, .int .u8 0, .int .u8 0, .int .u8 0, .int .u8 0, .int .u8 0, .int .u8 0, .int .u8 0, .int .u8 0, .int .u8 0, .int .u8 0, .int .u8 0, .int .u8 0, .int .u8 0, .int .u8 0, .int .u8 0, .int .u8 0, .int .u8 0, .int .u8 0, .int .u8 0, .int .u8 0, .int .u8 0, .int .u8 0, .int .u8 0, .int .u8 0, .int .u8 0] : Array Value) 29 rfl rfl Hrb.out (by rw [Cv.bytesV_size, HGL.out]; kernel_rfl) (by rw [Cv.bytesV_size, HGL.out]; rfl) (Cv.bytesV_one _) ?_; intro V hV hgV; have HZ2 := ϕ hV; have HB2 := ϕ (HB.out.grown hgV HB.out.size (fun j e => by cases e; exact GR.out)); clear hV hgV))
   rw [HRES.out]
   refine bodyPost_ret (v := .agg (Cv.bytesV (rp ++ ss)))
    (results_cell_row Tryz.results12 _ _ rb 29 _ (0, 0) _ rfl HZ2.out Tryz.underlying29 rfl (by rw [Cv.bytesV_size, HGL.out]; kernel_rfl)) rfl ?_
   exact ⟨rfl, HB2.out⟩
theorem wpList_wanted {P : Program} {ops : Array Oper} {rest : List Oper} {o : Oper} {a : Act} {w : World} {Q : Exit → Act → World → Prop} (hw : Region.wanted o (yielded ops a.tmps) = true)
 (h : ∀ K : Act → World → Prop, (∀ a w, wpList P ops Q rest a w → K a w) → o.wp P a w K Q) : wpList P ops Q (o :: rest) a w :=
 wpList_step fun K hK => by rw [if_pos hw]; exact h K hK
theorem load_blk_g {P : Program} {ops : Array Oper} {rest : List Oper} {o : Oper} {a : Act} {w : World} {Q : Exit → Act → World → Prop} (hw : Region.wanted o (yielded ops a.tmps) = true) (ty : TypeId) (x : Operand) (ho : o.op = .load ty x)
 (b : Nat) (cs : Array Value) (T : TypeId) (hx : a.eval x = .pointer (some ⟨b, 0, none⟩)) (hB : Rg.Blk w b T cs) {d : TypeDesc} (hu : P.underlying ty = some d) (hd : (match d with | .struct _ | .array _ _ => true | _ => false) = true) (hi : (P.info? ty).map (·.size) = some cs.size)
 (h : wpList P ops Q rest (a.put o.dst (.agg cs)) w) : wpList P ops Q (o :: rest) a w :=
 wpList_wanted hw fun _ hK => by
  unfold Oper.wp
  rw [RT.run_row ty x ho b hx T cs hB hu hd hi]
  exact hK _ _ h
theorem wpList_unwanted {P : Program} {ops : Array Oper} {rest : List Oper} {o : Oper} {a : Act} {w : World} {Q : Exit → Act → World → Prop} (hw : Region.wanted o (yielded ops a.tmps) = false)
 (h : wpList P ops Q rest (a.put o.dst undef) w) : wpList P ops Q (o :: rest) a w :=
 wpList_step fun K hK => by rw [if_neg (by rw [hw]; decide)]; exact hK _ _ h
theorem dec_beq (a b : List UInt8) : decide (a = b) = (a == b) := by
 by_cases h : a = b
 · rw [decide_eq_true h, beq_iff_eq.2 h]
 · rw [decide_eq_false h, beq_eq_false_iff_ne.2 h]
theorem run_arr {P : Program} {o : Oper} {a : Act} {w : World} (arr e : TypeId) (n : Nat) (x : Operand) (ho : o.op = .sliceToArrayPointer arr x) (b off len cap : Nat) (hx : a.eval x = .slice (some ⟨b, off, none⟩) len cap) (hu : P.underlying arr = some (.array n e)) (hl : n ≤ len) : (execOp a.eval o).run P w = .ok (.value (.pointer (some ⟨b, off, none⟩))) w := by
 unfold execOp
 simp only [ho, hx]
 unfold Instr.arrayAt
 simp only [Sem.run_bind, run_underlying hu w, Result.andThen_ok, if_neg (show ¬ len < n by omega), Sem.run_pure]
theorem front_of {w : World} {b T : Nat} {r s : List UInt8} (h : Rg.Blk w b T (Cv.bytesV (r ++ s))) (hr : r.length = 32) : Cv.Bytes w b 0 r := by
 have := bytes_front h 32
 rwa [List.take_append_of_le_length (by omega), List.take_of_length_le (by omega)] at this
theorem back_of {w : World} {b T : Nat} {r s : List UInt8} (h : Rg.Blk w b T (Cv.bytesV (r ++ s))) (hr : r.length = 32) : Cv.Bytes w b 32 s := by
 have := bytes_back h 32
 rwa [← hr, List.drop_left, hr] at this
theorem ver_no (w : World) (key m r s : List UInt8) (hk : key.length = 32) (hr : r.length = 32) (hs : s.length = 32) (hd : dec key = none) (hT : Sha.Tables w) (hO : Ord w) : Calls Tryz.prog 14 #[.agg (Cv.bytesV key), .string (bs m), .agg (Cv.bytesV (r ++ s))] w fun e w' => e = .returned (.bool (ver key m r s)) ∧ Below w.heap.size w w' := by
 obtain ⟨cd, ct, c1, c2, c3, c4, ecd, ect, hrq, cbeg⟩ := begin_e
 have CBE := ϕ cbeg
 obtain ⟨B0, hB0⟩ : ∃ R : E4, (⟨c1, c2, c3, c4⟩ : E4) = R := ⟨_, rfl⟩
 have hrB : Rq4 base B0 := hB0 ▸ hrq
 have HV := ϕ (ver_none (m := m) (r := r) (s := s) hd)
 obtain ⟨R0, ok, hok, crd⟩ := read_q (cd := cd) (ct := ct) (c1 := c1) (c2 := c2) (c3 := c3) (c4 := c4) ecd key hk
 obtain rfl : ok = false := by
  rcases hok with ⟨h1, p, h2, _⟩ | ⟨h1, h2⟩
  · rw [hd] at h2; exact none_no h2
  · exact h1
 have CRD := ϕ crd
 have HT := ϕ hT
 have HO := ϕ hO
 have HKL := ϕ hk
 have HRL := ϕ hr
 have HSL := ϕ hs
 clear hok crd hk hr hs hd hT hO ecd ect hrq cbeg hB0 hrB
 go_enter Tryz.func14, Tryz.ntmps14
 have tb0 := True.intro
 go_upto_region 1 with (first
  | (have _t := tb0; (with_reducible refine gate_ ?_); refine Rg.box_fresh rfl 22 _ rfl (Cv.bytesV key) rfl ?_; intro X1 hX hbX hnX; have J0 := ϕ hX; have K0 := ϕ hbX; clear hX hbX hnX _t tb0; have tb1 := True.intro)
  | (have _t := tb1; (with_reducible refine gate_ ?_); refine Rg.box_fresh rfl 29 _ rfl (Cv.bytesV (r ++ s)) rfl ?_; intro X2 hX hbX hnX; have J1 := ϕ hX; have K1 := ϕ hbX; clear hX hbX hnX _t tb1; have tb2 := True.intro))
 clear tb2
 obtain ⟨kb, hkb⟩ : ∃ n, w.heap.size = n := ⟨_, rfl⟩
 obtain ⟨gb, hgb⟩ : ∃ n, X1.heap.size = n := ⟨_, rfl⟩
 have Hkb := ϕ (show Rg.Blk X2 kb 22 (Cv.bytesV key) from (hkb ▸ J0.out).below K1.out (hkb ▸ J0.out.lt))
 have Hgb := ϕ (show Rg.Blk X2 gb 29 (Cv.bytesV (r ++ s)) from hgb ▸ J1.out)
 have HB := ϕ (show Below w.heap.size w X2 from K0.out.trans (K1.out.mono K0.out.size))
 have HW := ϕ hkb
 try rw [hkb]
 try rw [hgb]
 clear J0 J1 K0 K1 hkb hgb
 go_upto_region 2 with (go_at_call 18; refine (CBE.out _).mono ?_; rintro e w1 ⟨⟨cb, hcb, rfl, hcv⟩, hb1⟩; have Hcb := ϕ (show Rg.Blk w1 cb 57 (u64s (els [cd, ct, c1, c2, c3, c4])) from hcv); have Hkb := ϕ (Hkb.out.below hb1 Hkb.out.lt); have Hgb := ϕ (Hgb.out.below hb1 Hgb.out.lt); have HB := tm HB hb1; clear hb1 hcv hcb)
 go_upto_region 3 with (first
  | ((with_reducible refine gate_ ?_); refine Cv.load_cells rfl 22 _ rfl kb 0 rfl (Cv.bytesV key) _ (fun j v hv => by rw [Nat.zero_add]; exact Rg.Blk.cell Hkb.out j hv) Tryz.underlying22 rfl (by rw [Cv.bytesV_size, HKL.out]; kernel_rfl) ?_)
  | (go_at_call 27; refine (CRD.out cb _ Hcb.out).mono ?_; rintro e w2 ⟨rfl, hb1⟩; have Hgb := ϕ (Hgb.out.below hb1 Hgb.out.lt); have HB := tm HB hb1; clear hb1)
  | (refine Rg.store_fresh rfl 51 _ _ rfl (u64s (els [R0.x, R0.y, R0.z, R0.t])) _ 51 rfl rfl (by kernel_rfl) rfl (els_all _) ?_; intro X3 hX hbX; have Hpb := ϕ hX; have Hgb := ϕ (Hgb.out.below hbX Hgb.out.lt); have HB := tm HB hbX; clear hX hbX))
 obtain ⟨pb, hpb⟩ : ∃ n, w2.heap.size = n := ⟨_, rfl⟩
 try rw [hpb]
 clear hpb
 go_upto_region 4 with (first
  | ((with_reducible refine gate_ ?_); refine Cv.slice_to_array rfl 22 5 32 _ rfl _ _ _ _ rfl Tryz.underlying22 (by decide) ?_; skip)
  | ((with_reducible refine gate_ ?_); refine Cv.load_cells rfl 22 _ rfl gb 32 rfl (Cv.bytesV s) _ (Cv.Bytes.cells (back_of Hgb.out HRL.out)) Tryz.underlying22 rfl (by rw [Cv.bytesV_size, HSL.out]; kernel_rfl) ?_)
  | (refine Rg.store_fresh rfl 22 _ _ rfl (Cv.bytesV s) _ 22 rfl rfl (by rw [Cv.bytesV_size, HSL.out]; kernel_rfl) (by rw [Cv.bytesV_size, HSL.out]; rfl) (Cv.bytesV_one _) ?_; intro X4 hX hbX; have Hxb := ϕ hX; have HB := tm HB hbX; clear hX hbX))
 obtain ⟨xb, hxb⟩ : ∃ n, X3.heap.size = n := ⟨_, rfl⟩
 try rw [hxb]
 clear hxb
 go_wp2_with (first
  | (refine wpList_unwanted (by rfl) ?_; skip))
 go_ret
 exact ⟨by rw [HV.out]; rfl, HW.out ▸ HB.out⟩
theorem ver_yes (w : World) (key m r s : List UInt8) (hk : key.length = 32) (hm : m.length ≤ 10000) (hr : r.length = 32) (hs : s.length = 32) {A : Pt} (hd : dec key = some A) (hT : Sha.Tables w) (hO : Ord w) : Calls Tryz.prog 14 #[.agg (Cv.bytesV key), .string (bs m), .agg (Cv.bytesV (r ++ s))] w fun e w' => e = .returned (.bool (ver key m r s)) ∧ Below w.heap.size w w' := by
 obtain ⟨cd, ct, c1, c2, c3, c4, ecd, ect, hrq, cbeg⟩ := begin_e
 have CBE := ϕ cbeg
 obtain ⟨B0, hB0⟩ : ∃ R : E4, (⟨c1, c2, c3, c4⟩ : E4) = R := ⟨_, rfl⟩
 have hrB : Rq4 base B0 := hB0 ▸ hrq
 obtain ⟨R0, ok, hok, crd⟩ := read_q (cd := cd) (ct := ct) (c1 := c1) (c2 := c2) (c3 := c3) (c4 := c4) ecd key hk
 have hor : ok = true ∧ Rq4 A R0 := by
  rcases hok with ⟨h1, p, h2, h3⟩ | ⟨h1, h2⟩
  · rw [hd] at h2
    exact ⟨h1, some_eq (P := fun q => Rq4 q R0) h2.symm h3⟩
  · rw [hd] at h2; exact none_no h2.symm
 obtain ⟨rfl, hRA⟩ := hor
 obtain ⟨nx, nt, hN, cne⟩ := neg_q hRA
 obtain ⟨N0, hN0⟩ : ∃ R : E4, (⟨nx, R0.y, R0.z, nt⟩ : E4) = R := ⟨_, rfl⟩
 have hN4 : Rq4 A.neg N0 := hN0 ▸ hN
 have CNE := ϕ (show ∀ W : World, Calls Tryz.prog 35 #[.agg (u64s (els [R0.x, R0.y, R0.z, R0.t]))] W fun e w' => e = .returned (.agg (u64s (els [N0.x, N0.y, N0.z, N0.t]))) ∧ Below W.heap.size W w' from hN0 ▸ cne)
 obtain ⟨kk, hkk⟩ : ∃ l, toLe 32 (red (r ++ key ++ m)) = l := ⟨_, rfl⟩
 have hkkl : kk.length = 32 := by rw [← hkk, toLe_len]
 have hkn : leN kk = red (r ++ key ++ m) := by rw [← hkk]; exact leN_l (red_lt _)
 obtain ⟨R1, hR1, cm1⟩ := mult_q (cd := cd) (ct := ct) (c1 := c1) (c2 := c2) (c3 := c3) (c4 := c4) ect hrB s hs
 obtain ⟨R2, hR2, cm2⟩ := mult_q (cd := cd) (ct := ct) (c1 := c1) (c2 := c2) (c3 := c3) (c4 := c4) ect hN4 kk hkkl
 obtain ⟨D0, hD0, cad⟩ := adds (cd := cd) (ct := ct) (c1 := c1) (c2 := c2) (c3 := c3) (c4 := c4) ect hR1 hR2
 have cby := bytes_q hD0
 obtain ⟨be, hbe⟩ : ∃ e, enc ((Pt.mul (leN s) base).add (Pt.mul (leN kk) A.neg)) = e := ⟨_, rfl⟩
 rw [hbe] at cby
 rw [hkn] at hbe
 have HBL := ϕ (show be.length = 32 from by rw [← hbe]; exact enc_len _)
 obtain ⟨eb, heb⟩ : ∃ b, (be == r) = b := ⟨_, rfl⟩
 obtain ⟨fb, hfb⟩ : ∃ b, decide (leN s < Ed.L) = b := ⟨_, rfl⟩
 have HVV := ϕ (show ver key m r s = (fb && eb) from by
  rw [ver_some hd, hbe, hfb, dec_beq, heb])
 have HR2 := ϕ (fun W v (hT : Sha.Tables W) (hO : Ord W) (hv : Jo.Parts W v [⟨r.toArray⟩, ⟨key.toArray⟩, bs m]) => show Calls Tryz.prog 28 #[v] W fun e w' => e = .returned (.agg (Cv.bytesV kk)) ∧ Below W.heap.size W w' from by
  have h := reduce_l W v _ (r ++ key ++ m) (by rw [Jo.joined_list]; simp [bs_list]) (by rw [List.length_append, List.length_append]; omega) (by simp) hT hO hv
  rw [← hkk]
  exact h)
 have CFI := ϕ (fun W (hO : Ord W) => show Calls Tryz.prog 33 #[.agg (Cv.bytesV s)] W fun e w' => e = .returned (.bool fb) ∧ Below W.heap.size W w' from hfb ▸ Fits_any W s hs hO)
 have HEQ := ϕ (show ∀ W : World, (Op.equalIn 10000 22 (.agg (Cv.bytesV be)) (.agg (Cv.bytesV r))).run Tryz.prog W = .ok eb W from fun W => heb ▸ Cv.run_equalIn_bytes (P := Tryz.prog) W 22 5 32 Tryz.underlying22 Tryz.underlying5 (by kernel_rfl) be r HBL.out hr)
 have CRD := ϕ crd
 have CM1 := ϕ (hB0 ▸ cm1)
 have CM2 := ϕ cm2
 have CAD := ϕ cad
 have CBY := ϕ cby
 have HKK := ϕ hkkl
 have HT := ϕ hT
 have HO := ϕ hO
 have HKL := ϕ hk
 have HRL := ϕ hr
 have HSL := ϕ hs
 rw [HVV.out]
 clear hok crd hk hr hs hd hT hO ecd ect hrq cbeg hB0 hrB hRA hN cne hN0 hN4 hkk hkkl hkn hR1 cm1 hR2 cm2 hD0 cad cby hbe heb hfb hm
 go_enter Tryz.func14, Tryz.ntmps14
 have tb0 := True.intro
 go_upto_region 1 with (first
  | (have _t := tb0; (with_reducible refine gate_ ?_); refine Rg.box_fresh rfl 22 _ rfl (Cv.bytesV key) rfl ?_; intro X1 hX hbX hnX; have J0 := ϕ hX; have K0 := ϕ hbX; clear hX hbX hnX _t tb0; have tb1 := True.intro)
  | (have _t := tb1; (with_reducible refine gate_ ?_); refine Rg.box_fresh rfl 29 _ rfl (Cv.bytesV (r ++ s)) rfl ?_; intro X2 hX hbX hnX; have J1 := ϕ hX; have K1 := ϕ hbX; clear hX hbX hnX _t tb1; have tb2 := True.intro))
 clear tb2
 obtain ⟨kb, hkb⟩ : ∃ n, w.heap.size = n := ⟨_, rfl⟩
 obtain ⟨gb, hgb⟩ : ∃ n, X1.heap.size = n := ⟨_, rfl⟩
 have Hkb := ϕ (show Rg.Blk X2 kb 22 (Cv.bytesV key) from (hkb ▸ J0.out).below K1.out (hkb ▸ J0.out.lt))
 have Hgb := ϕ (show Rg.Blk X2 gb 29 (Cv.bytesV (r ++ s)) from hgb ▸ J1.out)
 have HB := ϕ (show Below w.heap.size w X2 from K0.out.trans (K1.out.mono K0.out.size))
 have HT := ϕ (HT.out.below HB.out HT.out.size)
 have HO := ϕ (HO.out.below HB.out HO.out.size)
 have HW := ϕ hkb
 try rw [hkb]
 try rw [hgb]
 clear J0 J1 K0 K1 hkb hgb
 go_upto_region 2 with (go_at_call 18; refine (CBE.out _).mono ?_; rintro e w1 ⟨⟨cb, hcb, rfl, hcv⟩, hb1⟩; have Hcb := ϕ (show Rg.Blk w1 cb 57 (u64s (els [cd, ct, c1, c2, c3, c4])) from hcv); have Hkb := ϕ (Hkb.out.below hb1 Hkb.out.lt); have Hgb := ϕ (Hgb.out.below hb1 Hgb.out.lt); have HT := ϕ (HT.out.below hb1 HT.out.size); have HO := ϕ (HO.out.below hb1 HO.out.size); have HB := tm HB hb1; clear hb1 hcv hcb)
 go_upto_region 3 with (first
  | ((with_reducible refine gate_ ?_); refine Cv.load_cells rfl 22 _ rfl kb 0 rfl (Cv.bytesV key) _ (fun j v hv => by rw [Nat.zero_add]; exact Rg.Blk.cell Hkb.out j hv) Tryz.underlying22 rfl (by rw [Cv.bytesV_size, HKL.out]; kernel_rfl) ?_)
  | (go_at_call 27; refine (CRD.out cb _ Hcb.out).mono ?_; rintro e w2 ⟨rfl, hb1⟩; have Hkb := ϕ (Hkb.out.below hb1 Hkb.out.lt); have Hgb := ϕ (Hgb.out.below hb1 Hgb.out.lt); have Hcb := ϕ (Hcb.out.below hb1 Hcb.out.lt); have HT := ϕ (HT.out.below hb1 HT.out.size); have HO := ϕ (HO.out.below hb1 HO.out.size); have HB := tm HB hb1; clear hb1)
  | (refine Rg.store_fresh rfl 51 _ _ rfl (u64s (els [R0.x, R0.y, R0.z, R0.t])) _ 51 rfl rfl (by kernel_rfl) rfl (els_all _) ?_; intro X3 hX hbX; have Hpb := ϕ hX; have Hkb := ϕ (Hkb.out.below hbX Hkb.out.lt); have Hgb := ϕ (Hgb.out.below hbX Hgb.out.lt); have Hcb := ϕ (Hcb.out.below hbX Hcb.out.lt); have HT := ϕ (HT.out.below hbX HT.out.size); have HO := ϕ (HO.out.below hbX HO.out.size); have HB := tm HB hbX; clear hX hbX))
 obtain ⟨pb, hpb⟩ : ∃ n, w2.heap.size = n := ⟨_, rfl⟩
 have Hpb := ϕ (show Rg.Blk X3 pb 51 (u64s (els [R0.x, R0.y, R0.z, R0.t])) from hpb ▸ Hpb.out)
 try rw [hpb]
 clear hpb
 go_upto_region 4 with (first
  | ((with_reducible refine gate_ ?_); refine Cv.slice_to_array rfl 22 5 32 _ rfl _ _ _ _ rfl Tryz.underlying22 (by decide) ?_; skip)
  | ((with_reducible refine gate_ ?_); refine Cv.load_cells rfl 22 _ rfl gb 32 rfl (Cv.bytesV s) _ (Cv.Bytes.cells (back_of Hgb.out HRL.out)) Tryz.underlying22 rfl (by rw [Cv.bytesV_size, HSL.out]; kernel_rfl) ?_)
  | (refine Rg.store_fresh rfl 22 _ _ rfl (Cv.bytesV s) _ 22 rfl rfl (by rw [Cv.bytesV_size, HSL.out]; kernel_rfl) (by rw [Cv.bytesV_size, HSL.out]; rfl) (Cv.bytesV_one _) ?_; intro X4 hX hbX; have Hxb := ϕ hX; have Hkb := ϕ (Hkb.out.below hbX Hkb.out.lt); have Hgb := ϕ (Hgb.out.below hbX Hgb.out.lt); have Hcb := ϕ (Hcb.out.below hbX Hcb.out.lt); have Hpb := ϕ (Hpb.out.below hbX Hpb.out.lt); have HT := ϕ (HT.out.below hbX HT.out.size); have HO := ϕ (HO.out.below hbX HO.out.size); have HB := tm HB hbX; clear hX hbX))
 obtain ⟨xb, hxb⟩ : ∃ n, X3.heap.size = n := ⟨_, rfl⟩
 have Hxb := ϕ (show Rg.Blk X4 xb 22 (Cv.bytesV s) from hxb ▸ Hxb.out)
 try rw [hxb]
 clear hxb
 cases fb with
 | false =>
  go_wp2_with (first
   | (refine load_blk_g (by rfl) 22 _ rfl xb (Cv.bytesV s) 22 rfl Hxb.out Tryz.underlying22 rfl (by rw [Cv.bytesV_size, HSL.out]; kernel_rfl) ?_; skip)
   | (go_at_call 33; refine (CFI.out _ HO.out).mono ?_; rintro e w5 ⟨rfl, hb1⟩; have HB := tm HB hb1; clear hb1))
  go_ret
  exact ⟨rfl, HW.out ▸ HB.out⟩
 | true =>
  go_upto_region 6 with (first
   | (refine load_blk_g (by rfl) 22 _ rfl xb (Cv.bytesV s) 22 rfl Hxb.out Tryz.underlying22 rfl (by rw [Cv.bytesV_size, HSL.out]; kernel_rfl) ?_; skip)
   | (go_at_call 33; refine (CFI.out _ HO.out).mono ?_; rintro e w5 ⟨rfl, hb1⟩; have Hkb := ϕ (Hkb.out.below hb1 Hkb.out.lt); have Hgb := ϕ (Hgb.out.below hb1 Hgb.out.lt); have Hcb := ϕ (Hcb.out.below hb1 Hcb.out.lt); have Hpb := ϕ (Hpb.out.below hb1 Hpb.out.lt); have Hxb := ϕ (Hxb.out.below hb1 Hxb.out.lt); have HT := ϕ (HT.out.below hb1 HT.out.size); have HO := ϕ (HO.out.below hb1 HO.out.size); have HB := tm HB hb1; clear hb1))
  refine RL.start (RL.Aft w5) (by kernel_rfl) (RL.Aft.drew (RL.Aft.refl w5)) ?_
  refine' RL.tv 0 ?hk15 ?_
  case hk15 => (intro W hSW; go_simp; try with_reducible rfl)
  try go_frame
  refine' RL.tv 1 ?hk16 ?_
  case hk16 => (intro W hSW; have x1 := Cv.run_string_len (P := Tryz.prog) W 25 5 9 Tryz.underlying25 Tryz.underlying5 Tryz.underlying9 gb 0 32 64 r HRL.out (front_of (aft_blk hSW Hgb.out) HRL.out); go_simp; try with_reducible rfl)
  try go_frame
  refine' RL.tv 2 ?hk17 ?_
  case hk17 => (intro W hSW; go_simp; try with_reducible rfl)
  try go_frame
  refine' RL.tv 3 ?hk18 ?_
  case hk18 => (intro W hSW; have x1 := Cv.run_string_len (P := Tryz.prog) W 25 5 9 Tryz.underlying25 Tryz.underlying5 Tryz.underlying9 kb 0 32 32 key HKL.out (Cv.Bytes.of_blk (aft_blk hSW Hkb.out)); go_simp; try with_reducible rfl)
  try go_frame
  refine' RL.tv 4 ?hk19 ?_
  case hk19 => (intro W hSW; go_simp; try with_reducible rfl)
  try go_frame
  refine' RL.rest_of (T := ?TTq1) (fun sg yb W => RL.Aft w5 W ∧ Rg.Blk W yb 22 z32 ∧ w5.heap.size ≤ yb) ?hmainq1 ?hrrq1
  case hmainq1 =>
   intro hrest
   refine RL.step2 (i := 5) (j := 7) rfl rfl (by kernel_rfl) (by rfl) (by rfl) (fun y2 hly2 hsy2 K hK => ?_) (fun y2 hly2 hsy2 K hK => ?_)
   · refine RL.wp_made (v := .slice (some ⟨y2.heap.size, 0, none⟩) 3 3) (w' := y2.alloc (.cells #[.string ⟨r.toArray⟩, .string ⟨key.toArray⟩, .string (bs m)] 9)) (by go_simp; try rfl) ?_
     obtain ⟨sg, hsg⟩ : ∃ n, y2.heap.size = n := ⟨_, rfl⟩
     have hba : Below y2.heap.size y2 (y2.alloc (.cells #[.string ⟨r.toArray⟩, .string ⟨key.toArray⟩, .string (bs m)] 9)) := (Below.refl _ _).alloc (Nat.le_refl _) _
     have ksg : Rg.Blk (y2.alloc (.cells #[.string ⟨r.toArray⟩, .string ⟨key.toArray⟩, .string (bs m)] 9)) sg 9 #[.string ⟨r.toArray⟩, .string ⟨key.toArray⟩, .string (bs m)] := Rg.Blk.newAt hsg.symm _ _
     have gsg : w5.heap.size ≤ sg := by rw [← hsg]; exact (show RL.Aft w5 y2 from hsy2).size
     refine hK.out _ _ (RL.Aft.alloc hsy2 _) ?_
     try rw [hsg]
     have hSy2y : RL.Aft w5 (y2.alloc (.cells #[.string ⟨r.toArray⟩, .string ⟨key.toArray⟩, .string (bs m)] 9)) := RL.Aft.alloc hsy2 _
     generalize hyy2 : y2.alloc (.cells #[.string ⟨r.toArray⟩, .string ⟨key.toArray⟩, .string (bs m)] 9) = y2y at *
     clear hsg hba hyy2
     clear hK
     try go_frame
     refine RL.step2 (i := 6) (j := 7) rfl rfl (by kernel_rfl) (by rfl) (by rfl) (fun y3 hly3 hsy3 K hK => ?_) (fun y3 hly3 hsy3 K hK => ?_)
     · have ksg := ksg.below hly3 ksg.lt
       refine RL.wp_enter (F := 28) (args := #[.slice (some ⟨sg, 0, none⟩) 3 3]) (by go_simp; try rfl) ?_
       refine (HR2.out y3 _ (HT.out.below hsy3 HT.out.size) (HO.out.below hsy3 HO.out.size) (parts_blk [_, _, _] ksg 3 rfl)).mono ?_
       rintro e y3x ⟨rfl, hb⟩
       have hSy3x : RL.Aft w5 y3x := RL.Aft.lat hsy3 hb
       have ksg := ksg.below hb ksg.lt
       refine ⟨_, rfl, hK.out _ _ (RL.Aft.lat hsy3 hb) ?_⟩
       clear hK
       try go_frame
       refine RL.sk 7 (fun y4 hly4 hsy4 K hK => ?_)
       have ksg := ksg.below hly4 ksg.lt
       refine RL.wp_made (v := .pointer (some ⟨y4.heap.size, 0, none⟩)) (w' := y4.alloc (.cells z32 22)) (by go_simp; try rfl) ?_
       obtain ⟨yb, hyb⟩ : ∃ n, y4.heap.size = n := ⟨_, rfl⟩
       have hba : Below y4.heap.size y4 (y4.alloc (.cells z32 22)) := (Below.refl _ _).alloc (Nat.le_refl _) _
       have kyb : Rg.Blk (y4.alloc (.cells z32 22)) yb 22 z32 := Rg.Blk.newAt hyb.symm _ _
       have gyb : w5.heap.size ≤ yb := by rw [← hyb]; exact (show RL.Aft w5 y4 from hsy4).size
       have ksg := ksg.below hba ksg.lt
       refine hK.out _ _ (RL.Aft.alloc hsy4 _) ?_
       try rw [hyb]
       have hSy4y : RL.Aft w5 (y4.alloc (.cells z32 22)) := RL.Aft.alloc hsy4 _
       generalize hyy4 : y4.alloc (.cells z32 22) = y4y at *
       clear hyb hba hyy4
       clear hK
       try go_frame
       refine RL.norm #[true, true, true, true, true, true, true, true, false] (by kernel_rfl) ?_
       exact hrest sg yb _ ⟨by assumption, kyb, gyb⟩
     · have ksg := ksg.below hly3 ksg.lt
       refine RL.wp_made (v := .pointer (some ⟨y3.heap.size, 0, none⟩)) (w' := y3.alloc (.cells z32 22)) (by go_simp; try rfl) ?_
       obtain ⟨yb, hyb⟩ : ∃ n, y3.heap.size = n := ⟨_, rfl⟩
       have hba : Below y3.heap.size y3 (y3.alloc (.cells z32 22)) := (Below.refl _ _).alloc (Nat.le_refl _) _
       have kyb : Rg.Blk (y3.alloc (.cells z32 22)) yb 22 z32 := Rg.Blk.newAt hyb.symm _ _
       have gyb : w5.heap.size ≤ yb := by rw [← hyb]; exact (show RL.Aft w5 y3 from hsy3).size
       have ksg := ksg.below hba ksg.lt
       refine hK.out _ _ (RL.Aft.alloc hsy3 _) ?_
       try rw [hyb]
       have hSy3y : RL.Aft w5 (y3.alloc (.cells z32 22)) := RL.Aft.alloc hsy3 _
       generalize hyy3 : y3.alloc (.cells z32 22) = y3y at *
       clear hyb hba hyy3
       clear hK
       try go_frame
       refine RL.sk 6 (fun y5 hly5 hsy5 K hK => ?_)
       have ksg := ksg.below hly5 ksg.lt
       have kyb := kyb.below hly5 kyb.lt
       refine RL.wp_enter (F := 28) (args := #[.slice (some ⟨sg, 0, none⟩) 3 3]) (by go_simp; try rfl) ?_
       refine (HR2.out y5 _ (HT.out.below hsy5 HT.out.size) (HO.out.below hsy5 HO.out.size) (parts_blk [_, _, _] ksg 3 rfl)).mono ?_
       rintro e y5x ⟨rfl, hb⟩
       have hSy5x : RL.Aft w5 y5x := RL.Aft.lat hsy5 hb
       have ksg := ksg.below hb ksg.lt
       have kyb := kyb.below hb kyb.lt
       refine ⟨_, rfl, hK.out _ _ (RL.Aft.lat hsy5 hb) ?_⟩
       clear hK
       try go_frame
       refine RL.norm #[true, true, true, true, true, true, true, true, false] (by kernel_rfl) ?_
       exact hrest sg yb _ ⟨by assumption, kyb, gyb⟩
   · refine RL.wp_made (v := .pointer (some ⟨y2.heap.size, 0, none⟩)) (w' := y2.alloc (.cells z32 22)) (by go_simp; try rfl) ?_
     obtain ⟨yb, hyb⟩ : ∃ n, y2.heap.size = n := ⟨_, rfl⟩
     have hba : Below y2.heap.size y2 (y2.alloc (.cells z32 22)) := (Below.refl _ _).alloc (Nat.le_refl _) _
     have kyb : Rg.Blk (y2.alloc (.cells z32 22)) yb 22 z32 := Rg.Blk.newAt hyb.symm _ _
     have gyb : w5.heap.size ≤ yb := by rw [← hyb]; exact (show RL.Aft w5 y2 from hsy2).size
     refine hK.out _ _ (RL.Aft.alloc hsy2 _) ?_
     try rw [hyb]
     have hSy2y : RL.Aft w5 (y2.alloc (.cells z32 22)) := RL.Aft.alloc hsy2 _
     generalize hyy2 : y2.alloc (.cells z32 22) = y2y at *
     clear hyb hba hyy2
     clear hK
     try go_frame
     refine RL.sk 5 (fun y6 hly6 hsy6 K hK => ?_)
     have kyb := kyb.below hly6 kyb.lt
     refine RL.wp_made (v := .slice (some ⟨y6.heap.size, 0, none⟩) 3 3) (w' := y6.alloc (.cells #[.string ⟨r.toArray⟩, .string ⟨key.toArray⟩, .string (bs m)] 9)) (by go_simp; try rfl) ?_
     obtain ⟨sg, hsg⟩ : ∃ n, y6.heap.size = n := ⟨_, rfl⟩
     have hba : Below y6.heap.size y6 (y6.alloc (.cells #[.string ⟨r.toArray⟩, .string ⟨key.toArray⟩, .string (bs m)] 9)) := (Below.refl _ _).alloc (Nat.le_refl _) _
     have ksg : Rg.Blk (y6.alloc (.cells #[.string ⟨r.toArray⟩, .string ⟨key.toArray⟩, .string (bs m)] 9)) sg 9 #[.string ⟨r.toArray⟩, .string ⟨key.toArray⟩, .string (bs m)] := Rg.Blk.newAt hsg.symm _ _
     have gsg : w5.heap.size ≤ sg := by rw [← hsg]; exact (show RL.Aft w5 y6 from hsy6).size
     have kyb := kyb.below hba kyb.lt
     refine hK.out _ _ (RL.Aft.alloc hsy6 _) ?_
     try rw [hsg]
     have hSy6y : RL.Aft w5 (y6.alloc (.cells #[.string ⟨r.toArray⟩, .string ⟨key.toArray⟩, .string (bs m)] 9)) := RL.Aft.alloc hsy6 _
     generalize hyy6 : y6.alloc (.cells #[.string ⟨r.toArray⟩, .string ⟨key.toArray⟩, .string (bs m)] 9) = y6y at *
     clear hsg hba hyy6
     clear hK
     try go_frame
     refine RL.sk 6 (fun y7 hly7 hsy7 K hK => ?_)
     have kyb := kyb.below hly7 kyb.lt
     have ksg := ksg.below hly7 ksg.lt
     refine RL.wp_enter (F := 28) (args := #[.slice (some ⟨sg, 0, none⟩) 3 3]) (by go_simp; try rfl) ?_
     refine (HR2.out y7 _ (HT.out.below hsy7 HT.out.size) (HO.out.below hsy7 HO.out.size) (parts_blk [_, _, _] ksg 3 rfl)).mono ?_
     rintro e y7x ⟨rfl, hb⟩
     have hSy7x : RL.Aft w5 y7x := RL.Aft.lat hsy7 hb
     have kyb := kyb.below hb kyb.lt
     have ksg := ksg.below hb ksg.lt
     refine ⟨_, rfl, hK.out _ _ (RL.Aft.lat hsy7 hb) ?_⟩
     clear hK
     try go_frame
     refine RL.norm #[true, true, true, true, true, true, true, true, false] (by kernel_rfl) ?_
     exact hrest sg yb _ ⟨by assumption, kyb, gyb⟩
  case hrrq1 =>
   rintro sg yb Z0 ⟨ha0, hZ, gyb⟩
   have Fyb := ϕ gyb
   refine RL.sk 8 (fun va hlva hsva K hK => ?_)
   have hZ := hZ.below hlva hZ.lt
   refine store_blk_op 22 _ _ rfl yb (Cv.bytesV kk) _ 22 rfl (by rfl) hZ (by rw [Cv.bytesV_size, HKK.out]; kernel_rfl) (by rw [Cv.bytesV_size, HKK.out]; rfl) (Cv.bytesV_one _) ?_
   intro Y9 hY hgY
   refine hK.out _ _ (Below.grown hsva hgY (Below.size hsva) (fun k hk => by cases hk; exact Fyb.out)) ?_
   clear hK
   try go_frame
   refine RL.done (by kernel_rfl) (fun Z5 hlZ5 hsZ5 => ?_)
   have Hyb := ϕ (show Rg.Blk Z5 yb 22 (Cv.bytesV kk) from hY.below hlZ5 hY.lt)
   clear hZ hY hgY hlva hsva
   have HA := ϕ (show RL.Aft w5 Z5 from hsZ5)
   have Hgb := ϕ (aft_blk HA.out Hgb.out)
   have Hcb := ϕ (aft_blk HA.out Hcb.out)
   have Hpb := ϕ (aft_blk HA.out Hpb.out)
   have Hxb := ϕ (aft_blk HA.out Hxb.out)
   have HB := ϕ (HB.out.trans (Below.mono HA.out HB.out.size))
   clear HA hsZ5 hlZ5
   go_upto_region 7 with fail
   refine RL.start (RL.Aft Z5) (by kernel_rfl) (RL.Aft.drew (RL.Aft.refl Z5)) ?_
   refine' RL.tv 0 ?hk20 ?_
   case hk20 => (intro W hSW; go_simp; try with_reducible rfl)
   try go_frame
   refine' RL.tv 1 ?hk21 ?_
   case hk21 => (intro W hSW; go_simp; try with_reducible rfl)
   try go_frame
   refine RL.tw 2 (v := .agg (Cv.bytesV s)) rfl (fun W hSW => RT.run_row 22 _ rfl _ rfl _ _ (aft_blk hSW Hxb.out) Tryz.underlying22 rfl (by rw [Cv.bytesV_size, HSL.out]; kernel_rfl)) ?_
   try go_frame
   refine' RL.tv 3 ?hk22 ?_
   case hk22 => (intro W hSW; go_simp; try with_reducible rfl)
   try go_frame
   refine' RL.tv 4 ?hk23 ?_
   case hk23 => (intro W hSW; go_simp; try with_reducible rfl)
   try go_frame
   refine' RL.tv 5 ?hk24 ?_
   case hk24 => (intro W hSW; go_simp; try with_reducible rfl)
   try go_frame
   refine RL.tw 6 (v := .agg (u64s (els [c1, c2, c3, c4]))) rfl (fun W hSW => run_at 51 _ rfl cb 10 rfl (u64s (els [c1, c2, c3, c4])) (els_at (aft_blk hSW Hcb.out) 2 10 [c1, c2, c3, c4] rfl rfl (by simp)) Tryz.underlying51 rfl (by kernel_rfl)) ?_
   try go_frame
   refine' RL.tc 7 (v := (.agg (u64s (els [R1.x, R1.y, R1.z, R1.t])))) 19 #[.pointer (some ⟨cb, 0, none⟩), .agg (Cv.bytesV s), .agg (u64s (els [c1, c2, c3, c4]))] ?hk25 ?hc25 ?_
   case hk25 => (intro W; go_simp; try with_reducible rfl)
   case hc25 => (intro W hSW; exact (CM1.out cb W (aft_blk hSW Hcb.out)).mono (fun e w9 h9 => ⟨h9.1, h9.2, RL.Aft.lat hSW h9.2⟩))
   try go_frame
   refine' RL.tv 8 ?hk26 ?_
   case hk26 => (intro W hSW; go_simp; try with_reducible rfl)
   try go_frame
   refine RL.tw 9 (v := .agg (Cv.bytesV kk)) rfl (fun W hSW => RT.run_row 22 _ rfl _ rfl _ _ (aft_blk hSW Hyb.out) Tryz.underlying22 rfl (by rw [Cv.bytesV_size, HKK.out]; kernel_rfl)) ?_
   try go_frame
   refine RL.tw 10 (v := .agg (u64s (els [R0.x, R0.y, R0.z, R0.t]))) rfl (fun W hSW => RT.run_row 51 _ rfl _ rfl _ _ (aft_blk hSW Hpb.out) Tryz.underlying51 rfl (by kernel_rfl)) ?_
   try go_frame
   refine' RL.tc 11 (v := (.agg (u64s (els [N0.x, N0.y, N0.z, N0.t])))) 35 #[.agg (u64s (els [R0.x, R0.y, R0.z, R0.t]))] ?hk27 ?hc27 ?_
   case hk27 => (intro W; go_simp; try with_reducible rfl)
   case hc27 => (intro W hSW; exact (CNE.out W).mono (fun e w9 h9 => ⟨h9.1, h9.2, RL.Aft.lat hSW h9.2⟩))
   try go_frame
   refine' RL.tc 12 (v := (.agg (u64s (els [R2.x, R2.y, R2.z, R2.t])))) 19 #[.pointer (some ⟨cb, 0, none⟩), .agg (Cv.bytesV kk), .agg (u64s (els [N0.x, N0.y, N0.z, N0.t]))] ?hk28 ?hc28 ?_
   case hk28 => (intro W; go_simp; try with_reducible rfl)
   case hc28 => (intro W hSW; exact (CM2.out cb W (aft_blk hSW Hcb.out)).mono (fun e w9 h9 => ⟨h9.1, h9.2, RL.Aft.lat hSW h9.2⟩))
   try go_frame
   refine' RL.tc 13 (v := (.agg (u64s (els [D0.x, D0.y, D0.z, D0.t])))) 34 #[.pointer (some ⟨cb, 0, none⟩), .agg (u64s (els [R1.x, R1.y, R1.z, R1.t])), .agg (u64s (els [R2.x, R2.y, R2.z, R2.t]))] ?hk29 ?hc29 ?_
   case hk29 => (intro W; go_simp; try with_reducible rfl)
   case hc29 => (intro W hSW; exact (CAD.out cb W (aft_blk hSW Hcb.out)).mono (fun e w9 h9 => ⟨h9.1, h9.2, RL.Aft.lat hSW h9.2⟩))
   try go_frame
   refine' RL.tc 14 (v := (.agg (Cv.bytesV be))) 21 #[.agg (u64s (els [D0.x, D0.y, D0.z, D0.t]))] ?hk30 ?hc30 ?_
   case hk30 => (intro W; go_simp; try with_reducible rfl)
   case hc30 => (intro W hSW; exact (CBY.out W).mono (fun e w9 h9 => ⟨h9.1, h9.2, RL.Aft.lat hSW h9.2⟩))
   try go_frame
   refine' RL.tv 15 ?hk31 ?_
   case hk31 => (intro W hSW; go_simp; try with_reducible rfl)
   try go_frame
   refine RL.tw 16 (v := .pointer (some ⟨gb, 0, none⟩)) rfl (fun W hSW => run_arr 22 5 32 _ rfl gb 0 32 64 rfl Tryz.underlying22 (by decide)) ?_
   try go_frame
   refine RL.tw 17 (v := .agg (Cv.bytesV r)) rfl (fun W hSW => run_at 22 _ rfl gb 0 rfl (Cv.bytesV r) (Cv.Bytes.cells (front_of (aft_blk hSW Hgb.out) HRL.out)) Tryz.underlying22 rfl (by rw [Cv.bytesV_size, HRL.out]; kernel_rfl)) ?_
   try go_frame
   refine' RL.tw 18 (v := .bool eb) rfl ?e8 ?_
   case e8 => (intro W hSW; have x1 := HEQ.out W; go_simp; try (clear x1; cases eb <;> rfl))
   try go_frame
   refine' RL.tv 19 ?hk32 ?_
   case hk32 => (intro W hSW; go_simp; try with_reducible rfl)
   try go_frame
   refine RL.done (by kernel_rfl) (fun Z9 hlZ9 hsZ9 => ?_)
   have HB := ϕ (HB.out.trans (Below.mono (show RL.Aft Z5 Z9 from hsZ9) HB.out.size))
   go_wp2_with fail
   go_ret
   exact ⟨rfl, HW.out ▸ HB.out⟩
theorem Verify_any (w : World) (key m r s : List UInt8) (hk : key.length = 32) (hm : m.length ≤ 10000) (hr : r.length = 32) (hs : s.length = 32) (hT : Sha.Tables w) (hO : Ord w) : Calls Tryz.prog 14 #[.agg (Cv.bytesV key), .string (bs m), .agg (Cv.bytesV (r ++ s))] w fun e w' => e = .returned (.bool (ver key m r s)) ∧ Below w.heap.size w w' := by
 cases hd : dec key with
 | none => exact ver_no w key m r s hk hr hs hd hT hO
 | some A => exact ver_yes w key m r s hk hm hr hs hd hT hO
end Go.Proofs.YtfpcelmekfdafaaGreatDoor.Kx
namespace Go.Proofs.YtfpcelmekfdafaaGreatDoor.Ed
open Go.Proofs.YtfpcelmekfdafaaGreatDoor.Nt
theorem t0 (d x y : F) (hx : x = 0) : 1 - d * x * x * y * y = 1 := by rw [hx]; grobner
theorem Pt.mul_zero : ∀ n, Pt.mul n Pt.zero = Pt.zero
 | 0 => rfl
 | n + 1 => by show (Pt.mul n Pt.zero).add Pt.zero = _; rw [Pt.mul_zero n, Pt.add_zero]
theorem Pt.order {l n : Nat} (hl : Pr l) {p : Pt} (hL : Pt.mul l p = Pt.zero) (hn : Pt.mul n p = Pt.zero) (hd : ¬ l ∣ n) : p = Pt.zero := by
 have hf := fermat hl hd
 have h1 : Pt.mul (n ^ (l - 1)) p = Pt.zero := by
  obtain ⟨k, hk⟩ : ∃ k, l - 1 = k + 1 := ⟨l - 2, by have := hl.1; omega⟩
  rw [hk, Nat.pow_succ, Pt.mul_mul, hn, Pt.mul_zero]
 have h2 : n ^ (l - 1) = n ^ (l - 1) / l * l + 1 := by
  have := Nat.div_add_mod (n ^ (l - 1)) l
  rw [hf, Nat.mul_comm] at this
  exact this.symm
 rw [h2] at h1
 have h3 : Pt.mul (n ^ (l - 1) / l * l + 1) p = (Pt.mul (n ^ (l - 1) / l * l) p).add p := rfl
 rw [h3, Pt.mul_mul, hL, Pt.mul_zero, Pt.zero_add] at h1
 exact h1
theorem base_ne : base ≠ Pt.zero := fun h => by
 have : base.y = (1 : F) := by rw [h]; rfl
 exact absurd this (by decide +kernel)
end Go.Proofs.YtfpcelmekfdafaaGreatDoor.Ed
namespace Go.Proofs.YtfpcelmekfdafaaGreatDoor.Kx
open Go.Proofs.YtfpcelmekfdafaaGreatDoor.Ed Go.Proofs.YtfpcelmekfdafaaGreatDoor.Cl
theorem getD_set_ne (l : List UInt8) (i j : Nat) (v d : UInt8) (h : i ≠ j) : (l.set i v).getD j d = l.getD j d := by
 rw [List.getD_eq_getElem?_getD, List.getD_eq_getElem?_getD, List.getElem?_set_ne h]
end Go.Proofs.YtfpcelmekfdafaaGreatDoor.Kx
namespace Go.Proofs.YtfpcelmekfdafaaGreatDoor.Ed
open Go.Proofs.YtfpcelmekfdafaaGreatDoor.Nt Go.Proofs.YtfpcelmekfdafaaGreatDoor.Kx Go.Proofs.YtfpcelmekfdafaaGreatDoor.Rf
theorem mul_modL (n : Nat) : Pt.mul (n % L) base = Pt.mul n base := by
 have h : Pt.mul n base = Pt.mul (L * (n / L) + n % L) base := by rw [Nat.div_add_mod]
 rw [h, Pt.mul_add, Pt.mul_mul, Pt.mul_swap, ord_base, Pt.mul_zero, Pt.zero_add]
theorem mul_cong {m n : Nat} (h : m % L = n % L) : Pt.mul m base = Pt.mul n base := by rw [← mul_modL m, h, mul_modL]
theorem neg_is (a : Nat) (l : Nat) (hl : L = l + 1) : (Pt.mul a base).neg = Pt.mul (l * a) base := by
 refine Pt.cancel _ _ (Pt.mul a base) ?_
 rw [Pt.comm, Pt.add_neg, ← Pt.mul_add, show l * a + a = L * a by rw [hl, Nat.add_mul, Nat.one_mul], Pt.mul_mul, Pt.mul_swap, ord_base, Pt.mul_zero]
/-- what a check reckons, as one multiple -/
theorem check_is (S k a l : Nat) (hl : L = l + 1) : (Pt.mul S base).add (Pt.mul k (Pt.mul a base).neg) = Pt.mul (S + k * (l * a)) base := by
 rw [neg_is a l hl, ← Pt.mul_mul, ← Pt.mul_add]
theorem sum_mod (k a r l n : Nat) (hl : n = l + 1) : ((k * a + r) % n + k * (l * a)) % n = r % n := by
 rw [Nat.add_mod, Nat.mod_mod, ← Nat.add_mod]
 have : k * a + r + k * (l * a) = r + n * (k * a) := by
  rw [hl, Nat.add_mul, Nat.one_mul, Nat.mul_left_comm k l a]
  omega
 rw [this, Nat.add_mul_mod_self_left]
def Lm : Nat := 7237005577332262213973186563042994240857116359379907606001950938285454250988
theorem Lm_eq : L = Lm + 1 := by decide +kernel
theorem enc_inj {p q : Pt} (h : enc p = enc q) : p = q := by
 have h1 := dec_enc p
 rw [h, dec_enc q] at h1
 exact (some_eq (P := fun x => x = q) h1 rfl)
theorem dec_pub (seed : List UInt8) : dec (pub seed) = some (pubP seed) := dec_enc _
/-- a signature fits -/
theorem ver_sig (seed m : List UInt8) : ver (pub seed) m (enc (rP seed m)) (toLe 32 (sN seed (pub seed) m)) = true := by
 rw [ver_some (dec_pub seed)]
 have hS : sN seed (pub seed) m < L := Nat.mod_lt _ l_pos
 rw [leN_l hS, decide_eq_true hS, Bool.true_and]
 refine decide_eq_true (congrArg enc ?_)
 show (Pt.mul _ base).add (Pt.mul _ (Pt.mul (aN seed) base).neg) = Pt.mul (rN seed m) base
 rw [check_is _ _ _ _ Lm_eq]
 refine mul_cong ?_
 unfold sN
 exact sum_mod _ _ _ _ _ Lm_eq
/-- two multiples with different numbers -/
theorem mulB_ne {x r : Nat} (h : (x + (L - r % L)) % L ≠ 0) : Pt.mul x base ≠ Pt.mul r base := fun e => by
 have h1 : Pt.mul (x + (L - r % L)) base = Pt.zero := by
  rw [Pt.mul_add, e, ← mul_modL r, ← Pt.mul_add, show r % L + (L - r % L) = L by have := Nat.mod_lt r l_pos; omega, ord_base]
 exact base_ne (Pt.order Nt.pr_l ord_base h1 (fun hd => h (Nat.mod_eq_zero_of_dvd hd)))
theorem ver_not {seed m n : List UInt8} (h : (sN seed (pub seed) m + red (enc (rP seed m) ++ pub seed ++ n) * (Lm * aN seed) + (L - rN seed m % L)) % L ≠ 0) : ver (pub seed) n (enc (rP seed m)) (toLe 32 (sN seed (pub seed) m)) = false := by
 rw [ver_some (dec_pub seed)]
 have hS : sN seed (pub seed) m < L := Nat.mod_lt _ l_pos
 rw [leN_l hS, decide_eq_true hS, Bool.true_and]
 refine decide_eq_false (fun e => ?_)
 have e2 := enc_inj e
 have e3 : (Pt.mul (sN seed (pub seed) m) base).add (Pt.mul (red (enc (rP seed m) ++ pub seed ++ n)) (Pt.mul (aN seed) base).neg) = Pt.mul (rN seed m) base := e2
 rw [check_is _ _ _ _ Lm_eq] at e3
 exact mulB_ne h e3
theorem f_comm (a b : F) : a * b = b * a := by grobner
/-- a multiple's bytes, by the kernel -/
theorem enc_of {n x y e : Nat} (hn : n < 2 ^ 256) (hx : x < P) (hy : y < P) (h : kDbl bx.val byy.val 1 256 n (fun A B C => A == x * C % P && B == y * C % P) = true) (he : e = y + 2 ^ 255 * (x % 2)) : enc (Pt.mul n base) = toLe 32 e := by
 obtain ⟨A, B, C, h1, h2⟩ := kDbl_eq base (Rep.of base) 256 n
 have h3 := h2 Bool (fun A B C => A == x * C % P && B == y * C % P)
 rw [show (1 : Nat) = (1 : F).val from rfl] at h
 rw [show kDbl bx.val byy.val (1 : F).val 256 n (fun A B C => A == x * C % P && B == y * C % P) = _ from h3] at h
 rw [Bool.and_eq_true, beq_iff_eq, beq_iff_eq] at h
 rw [Pt.dbl_eq base 256 n hn] at h1
 have hA : C * (Pt.mul n base).x = C * ⟨x, hx⟩ := by
  rw [f_comm, ← h1.x, f_comm]
  exact Fin.ext h.1
 have hB : C * (Pt.mul n base).y = C * ⟨y, hy⟩ := by
  rw [f_comm, ← h1.y, f_comm]
  exact Fin.ext h.2
 have ex := cancel h1.z hA
 have ey := cancel h1.z hB
 unfold enc encN
 rw [ex, ey, he]
def s1 : List UInt8 := [1, 0, 0, 0, 0, 0, 0, 0, 0, 0, 0, 0, 0, 0, 0, 0, 0, 0, 0, 0, 0, 0, 0, 0, 0, 0, 0, 0, 0, 0, 0, 0]
def d1 : List UInt8 := [206, 12, 38, 94, 204, 130, 221, 140, 238, 110, 86, 206, 68, 228, 93, 175, 215, 160, 197, 117, 13, 249, 20, 178, 83, 161, 251, 122, 138, 246, 109, 219, 153, 118, 54, 7, 240, 168, 93, 11, 212, 54, 105, 25, 74, 58, 64, 87, 122, 82, 138, 243, 149, 244, 241, 126, 6, 241, 222, 252, 198, 222, 178, 165]
def p1 : List UInt8 := [206, 204, 21, 7, 220, 29, 221, 114, 149, 149, 28, 41, 8, 136, 240, 149, 173, 185, 4, 77, 27, 115, 214, 150, 230, 223, 6, 93, 104, 59, 212, 252]
def r1 : List UInt8 := [201, 109, 201, 63, 7, 56, 97, 11, 167, 251, 241, 72, 213, 248, 62, 58, 247, 169, 150, 2, 66, 169, 61, 247, 125, 196, 208, 55, 148, 83, 246, 35]
theorem d1_is : dig5 s1 = d1 := by decide +kernel
theorem a1_is : aN s1 = 41354757114163650016304086911142683682198188400503391378057401993857692208328 := by
 unfold aN
 rw [d1_is]
 decide +kernel
theorem p1_is : pub s1 = p1 := by
 unfold pub pubP
 rw [a1_is, enc_of (x := 26822555233711949854380153315158647482531717314742952720223963642152101436051) (y := 56461774818723834839721450787889437474891852695816614318545467683432985644238) (e := 114357819437381932551506943292233391401526845028636896338274259687389550464206) (by decide +kernel) (by decide +kernel) (by decide +kernel) (by decide +kernel) (by decide +kernel)]
 decide +kernel
theorem n1_is : rN s1 [109] = 4890104081311413305361073175215351191204643243835004713526441721940766287696 := by
 unfold rN red
 rw [d1_is]
 decide +kernel
theorem r1_is : enc (rP s1 [109]) = r1 := by
 unfold rP
 rw [n1_is, enc_of (x := 36589614117339618185487057778166490842490972133339139349903414575049252153694) (y := 16266170919246754522540951498933028769817383645178266188855790139532158528969) (e := 16266170919246754522540951498933028769817383645178266188855790139532158528969) (by decide +kernel) (by decide +kernel) (by decide +kernel) (by decide +kernel) (by decide +kernel)]
 decide +kernel
theorem km_is : red (r1 ++ p1 ++ [109]) = 2451039515709583726476366537570809016505929779665322811895523651432471642957 := by unfold red; decide +kernel
theorem kn_is : red (r1 ++ p1 ++ [110]) = 1632659995609997945301961149528741832457992758927200494524137169447212801414 := by unfold red; decide +kernel
theorem sN_of {s m e p : List UInt8} {k a r S : Nat} (h0 : enc (rP s m) = e) (hp : pub s = p) (h1 : red (e ++ p ++ m) = k) (h2 : aN s = a) (h3 : rN s m = r) (h4 : (k * a + r) % L = S) : sN s (pub s) m = S := by
 unfold sN
 rw [h0, hp, h1, h2, h3]
 exact h4
theorem s1_is : sN s1 (pub s1) [109] = 3578348655535617917364192395663811809538708995023043596639455394899626080766 := sN_of r1_is p1_is km_is a1_is n1_is (by decide +kernel)
theorem one_no : ver (pub s1) [110] (enc (rP s1 [109])) (toLe 32 (sN s1 (pub s1) [109])) = false := by
 refine ver_not ?_
 rw [s1_is, r1_is, p1_is, kn_is, a1_is, n1_is]
 decide +kernel
end Go.Proofs.YtfpcelmekfdafaaGreatDoor.Ed
namespace Go.Proofs.YtfpcelmekfdafaaGreatDoor.Kx
open Go.RowKit Go.Proofs.YtfpcelmekfdafaaGreatDoor.Cl Go.Proofs.YtfpcelmekfdafaaGreatDoor.Ed Go.Proofs.YtfpcelmekfdafaaGreatDoor.Rf
theorem s1b : Cv.bytesV Ed.s1 = (#[.int .u8 1, .int .u8 0, .int .u8 0, .int .u8 0, .int .u8 0, .int .u8 0, .int .u8 0, .int .u8 0, .int .u8 0, .int .u8 0, .int .u8 0, .int .u8 0, .int .u8 0, .int .u8 0, .int .u8 0, .int .u8 0, .int .u8 0, .int .u8 0, .int .u8 0, .int .u8 0, .int .u8 0, .int .u8 0, .int .u8 0, .int .u8 0, .int .u8 0, .int .u8 0, .int .u8 0, .int .u8 0, .int .u8 0, .int .u8 0, .int .u8 0, .int .u8 0] : Array Value) := by unfold Cv.bytesV Ed.s1; rfl
theorem s1_len : Ed.s1.length = 32 := by decide
theorem pub_len (l : List UInt8) : (pub l).length = 32 := enc_len _
/-- a key, a signature and their check, over names -/
structure Sg (w : World) : Prop where
 t : Sha.Tables w
 o : Ord w
theorem Sg.below {w w' : World} (h : Sg w) (hb : Below w.heap.size w w') : Sg w' := ⟨h.t.below hb h.t.size, h.o.below hb h.o.size⟩
theorem Sg.aft {w w' : World} (h : Sg w) (hb : RL.Aft w w') : Sg w' := h.below hb
theorem sig_is (seed m : List UInt8) : sig seed (pub seed) m = enc (rP seed m) ++ toLe 32 (sN seed (pub seed) m) := rfl
theorem awake08 (w : World) (hG : Sg w) : Calls Tryz.prog 7 #[] w fun e w' => e = .returned (.bool true) ∧ Below w.heap.size w w' := by
 obtain ⟨ke, hke⟩ : ∃ k, pub Ed.s1 = k := ⟨_, rfl⟩
 obtain ⟨r, hr⟩ : ∃ k, enc (rP Ed.s1 [109]) = k := ⟨_, rfl⟩
 obtain ⟨s, hs⟩ : ∃ k, toLe 32 (sN Ed.s1 (pub Ed.s1) [109]) = k := ⟨_, rfl⟩
 have hkl : ke.length = 32 := by rw [← hke]; exact pub_len _
 have hrl : r.length = 32 := by rw [← hr]; exact enc_len _
 have hsl : s.length = 32 := by rw [← hs, toLe_len]
 have v1 := ver_sig Ed.s1 [109]
 have v2 := one_no
 rw [hr, hs, hke] at v1 v2
 have dk := dec_pub Ed.s1
 rw [hke] at dk
 have CKE := ϕ (fun W (h : Sg W) => show Calls Tryz.prog 8 #[.agg (Cv.bytesV Ed.s1)] W fun e w' => e = .returned (.agg (Cv.bytesV ke)) ∧ Below W.heap.size W w' from hke ▸ Key_any W Ed.s1 s1_len h.t)
 have CPO := ϕ (fun W => show Calls Tryz.prog 10 #[.agg (Cv.bytesV ke)] W fun e w' => e = .returned (.bool true) ∧ Below W.heap.size W w' from by
  have h := Point_any W ke hkl
  rw [dk] at h
  exact h)
 have CSI := ϕ (fun W (h : Sg W) => show Calls Tryz.prog 12 #[.agg (Cv.bytesV Ed.s1), .string ⟨#[109]⟩] W fun e w' => e = .returned (.agg (Cv.bytesV (r ++ s))) ∧ Below W.heap.size W w' from by
  have h := Sign_any W Ed.s1 [109] s1_len (by decide) h.t h.o
  rw [sig_is, hr, hs] at h
  exact h)
 have CV1 := ϕ (fun W (h : Sg W) => show Calls Tryz.prog 14 #[.agg (Cv.bytesV ke), .string ⟨#[109]⟩, .agg (Cv.bytesV (r ++ s))] W fun e w' => e = .returned (.bool true) ∧ Below W.heap.size W w' from by
  have h := Verify_any W ke [109] r s hkl (by decide) hrl hsl h.t h.o
  rw [v1] at h
  exact h)
 have CV2 := ϕ (fun W (h : Sg W) => show Calls Tryz.prog 14 #[.agg (Cv.bytesV ke), .string ⟨#[110]⟩, .agg (Cv.bytesV (r ++ s))] W fun e w' => e = .returned (.bool false) ∧ Below W.heap.size W w' from by
  have h := Verify_any W ke [110] r s hkl (by decide) hrl hsl h.t h.o
  rw [v2] at h
  exact h)
 have HKL := ϕ hkl
 have HSL := ϕ s1_len
 have HG := ϕ hG
 have HB := ϕ (Below.refl w.heap.size w)
 clear hG hke hr hs hkl hrl hsl v1 v2 dk
 go_enter Tryz.func7, Tryz.ntmps7
 go_upto_region 2 with (refine Rg.store_fresh rfl 22 _ _ rfl (Cv.bytesV Ed.s1) _ 22 rfl (by rw [s1b]; rfl) (by rw [Cv.bytesV_size, HSL.out]; kernel_rfl) (by rw [Cv.bytesV_size, HSL.out]; rfl) (Cv.bytesV_one _) ?_; intro V1 hX hbX; have Hsb := ϕ hX;  have HG := ϕ (HG.out.below hbX); have HB := tm HB hbX; clear hX hbX)
 obtain ⟨sb, hsb⟩ : ∃ n, w.heap.size = n := ⟨_, rfl⟩
 have Hsb := ϕ (show Rg.Blk V1 sb 22 (Cv.bytesV Ed.s1) from hsb ▸ Hsb.out)
 have HW := ϕ hsb
 try rw [hsb]
 clear hsb
 go_upto_region 3 with (first
  | ((with_reducible refine gate_ ?_); refine Cv.load_cells rfl 22 _ rfl sb 0 rfl (Cv.bytesV Ed.s1) _ (fun j v hv => by rw [Nat.zero_add]; exact Rg.Blk.cell Hsb.out j hv) Tryz.underlying22 rfl (by rw [Cv.bytesV_size, HSL.out]; kernel_rfl) ?_)
  | (go_at_call 8; refine (CKE.out _ HG.out).mono ?_; rintro e w1 ⟨rfl, hb1⟩; have Hsb := ϕ (Hsb.out.below hb1 Hsb.out.lt); have HG := ϕ (HG.out.below hb1); have HB := tm HB hb1; clear hb1)
  | (refine Rg.store_fresh rfl 22 _ _ rfl (Cv.bytesV ke) _ 22 rfl rfl (by rw [Cv.bytesV_size, HKL.out]; kernel_rfl) (by rw [Cv.bytesV_size, HKL.out]; rfl) (Cv.bytesV_one _) ?_; intro V2 hX hbX; have Hkb := ϕ hX; have Hsb := ϕ (Hsb.out.below hbX Hsb.out.lt); have HG := ϕ (HG.out.below hbX); have HB := tm HB hbX; clear hX hbX))
 obtain ⟨kb, hkb⟩ : ∃ n, w1.heap.size = n := ⟨_, rfl⟩
 have Hkb := ϕ (show Rg.Blk V2 kb 22 (Cv.bytesV ke) from hkb ▸ Hkb.out)
 try rw [hkb]
 clear hkb
 refine RL.start (RL.Aft V2) (by kernel_rfl) (RL.Aft.drew (RL.Aft.refl V2)) ?_
 refine RL.tw 0 (v := .agg (Cv.bytesV ke)) rfl (fun W hSW => RT.run_row 22 _ rfl _ rfl _ _ (aft_blk hSW Hkb.out) Tryz.underlying22 rfl (by rw [Cv.bytesV_size, HKL.out]; kernel_rfl)) ?_
 try go_frame
 refine' RL.tc 1 (v := (.bool true)) 10 #[.agg (Cv.bytesV ke)] ?hk15 ?hc15 ?_
 case hk15 => (intro W; go_simp; try with_reducible rfl)
 case hc15 => (intro W hSW; exact (CPO.out W).mono (fun e w9 h9 => ⟨h9.1, h9.2, RL.Aft.lat hSW h9.2⟩))
 try go_frame
 refine' RL.tv 2 ?hk16 ?_
 case hk16 => (intro W hSW; go_simp; try with_reducible rfl)
 try go_frame
 refine RL.tw 3 (v := .agg (Cv.bytesV ke)) rfl (fun W hSW => RT.run_row 22 _ rfl _ rfl _ _ (aft_blk hSW Hkb.out) Tryz.underlying22 rfl (by rw [Cv.bytesV_size, HKL.out]; kernel_rfl)) ?_
 try go_frame
 refine RL.tw 4 (v := .agg (Cv.bytesV Ed.s1)) rfl (fun W hSW => RT.run_row 22 _ rfl _ rfl _ _ (aft_blk hSW Hsb.out) Tryz.underlying22 rfl (by rw [Cv.bytesV_size, HSL.out]; kernel_rfl)) ?_
 try go_frame
 refine' RL.tc 5 (v := (.agg (Cv.bytesV (r ++ s)))) 12 #[.agg (Cv.bytesV Ed.s1), .string ⟨#[109]⟩] ?hk17 ?hc17 ?_
 case hk17 => (intro W; go_simp; try with_reducible rfl)
 case hc17 => (intro W hSW; exact (CSI.out W (HG.out.aft hSW)).mono (fun e w9 h9 => ⟨h9.1, h9.2, RL.Aft.lat hSW h9.2⟩))
 try go_frame
 refine' RL.tc 6 (v := (.bool true)) 14 #[.agg (Cv.bytesV ke), .string ⟨#[109]⟩, .agg (Cv.bytesV (r ++ s))] ?hk18 ?hc18 ?_
 case hk18 => (intro W; go_simp; try with_reducible rfl)
 case hc18 => (intro W hSW; exact (CV1.out W (HG.out.aft hSW)).mono (fun e w9 h9 => ⟨h9.1, h9.2, RL.Aft.lat hSW h9.2⟩))
 try go_frame
 refine' RL.tv 7 ?hk19 ?_
 case hk19 => (intro W hSW; go_simp; try with_reducible rfl)
 try go_frame
 refine' RL.tv 8 ?hk20 ?_
 case hk20 => (intro W hSW; go_simp; try with_reducible rfl)
 try go_frame
 refine RL.tw 9 (v := .agg (Cv.bytesV ke)) rfl (fun W hSW => RT.run_row 22 _ rfl _ rfl _ _ (aft_blk hSW Hkb.out) Tryz.underlying22 rfl (by rw [Cv.bytesV_size, HKL.out]; kernel_rfl)) ?_
 try go_frame
 refine RL.tw 10 (v := .agg (Cv.bytesV Ed.s1)) rfl (fun W hSW => RT.run_row 22 _ rfl _ rfl _ _ (aft_blk hSW Hsb.out) Tryz.underlying22 rfl (by rw [Cv.bytesV_size, HSL.out]; kernel_rfl)) ?_
 try go_frame
 refine' RL.tc 11 (v := (.agg (Cv.bytesV (r ++ s)))) 12 #[.agg (Cv.bytesV Ed.s1), .string ⟨#[109]⟩] ?hk21 ?hc21 ?_
 case hk21 => (intro W; go_simp; try with_reducible rfl)
 case hc21 => (intro W hSW; exact (CSI.out W (HG.out.aft hSW)).mono (fun e w9 h9 => ⟨h9.1, h9.2, RL.Aft.lat hSW h9.2⟩))
 try go_frame
 refine' RL.tc 12 (v := (.bool false)) 14 #[.agg (Cv.bytesV ke), .string ⟨#[110]⟩, .agg (Cv.bytesV (r ++ s))] ?hk22 ?hc22 ?_
 case hk22 => (intro W; go_simp; try with_reducible rfl)
 case hc22 => (intro W hSW; exact (CV2.out W (HG.out.aft hSW)).mono (fun e w9 h9 => ⟨h9.1, h9.2, RL.Aft.lat hSW h9.2⟩))
 try go_frame
 refine' RL.tv 13 ?hk23 ?_
 case hk23 => (intro W hSW; go_simp; try with_reducible rfl)
 try go_frame
 refine' RL.tv 14 ?hk24 ?_
 case hk24 => (intro W hSW; go_simp; try with_reducible rfl)
 try go_frame
 refine' RL.tv 15 ?hk25 ?_
 case hk25 => (intro W hSW; go_simp; try with_reducible rfl)
 try go_frame
 refine RL.done (by kernel_rfl) (fun Z hlZ hsZ => ?_)
 have HB := ϕ (HB.out.trans (Below.mono (show RL.Aft V2 Z from hsZ) HB.out.size))
 go_wp2_with fail
 go_ret
 exact ⟨rfl, HW.out ▸ HB.out⟩
theorem law_SignKeys (w : World) (l : List UInt8) (hl : l.length = 32) (hG : Sg w) : Calls Tryz.prog 3 #[.agg (Cv.bytesV l)] w fun e w' => e = .returned (.bool true) ∧ Below w.heap.size w w' := by
 obtain ⟨ke, hke⟩ : ∃ k, pub l = k := ⟨_, rfl⟩
 have hkl : ke.length = 32 := by rw [← hke]; exact pub_len _
 have dk := dec_pub l
 rw [hke] at dk
 have CKE := ϕ (fun W (h : Sg W) => show Calls Tryz.prog 8 #[.agg (Cv.bytesV l)] W fun e w' => e = .returned (.agg (Cv.bytesV ke)) ∧ Below W.heap.size W w' from hke ▸ Key_any W l hl h.t)
 have CRK := ϕ (fun W => show Calls Tryz.prog 9 #[.string ⟨l.toArray⟩] W fun e w' => e = .returned (.string ⟨ke.toArray⟩) ∧ Below W.heap.size W w' from by
  have h := key8_any W l (by omega)
  rw [hke] at h
  exact h)
 have CPO := ϕ (fun W => show Calls Tryz.prog 10 #[.agg (Cv.bytesV ke)] W fun e w' => e = .returned (.bool true) ∧ Below W.heap.size W w' from by
  have h := Point_any W ke hkl
  rw [dk] at h
  exact h)
 have HEQ := ϕ (show ((⟨ke.toArray⟩ : ByteArray).toList == (⟨ke.toArray⟩ : ByteArray).toList) = true from by simp)
 have HKL := ϕ hkl
 have HL := ϕ hl
 have HG := ϕ hG
 clear hG hke hkl hl dk
 go_enter Tryz.func3, Tryz.ntmps3
 go_upto_region 1 with ((with_reducible refine gate_ ?_); refine Rg.box_fresh rfl 22 _ rfl (Cv.bytesV l) rfl ?_; intro X hX hbX hnX; have HX := ϕ hX; have HBX := ϕ hbX; clear hX hbX hnX)
 obtain ⟨sb, hsb⟩ : ∃ n, w.heap.size = n := ⟨_, rfl⟩
 have Hsb := ϕ (show Rg.Blk X sb 22 (Cv.bytesV l) from hsb ▸ HX.out)
 have HB := ϕ (show Below w.heap.size w X from HBX.out)
 have HG := ϕ (HG.out.below HBX.out)
 have HW := ϕ hsb
 try rw [hsb]
 clear HX HBX hsb
 go_upto_region 3 with (go_at_call 7; refine (awake08 _ HG.out).mono ?_; rintro e w1 ⟨rfl, hb1⟩; have Hsb := ϕ (Hsb.out.below hb1 Hsb.out.lt); have HG := ϕ (HG.out.below hb1); have HB := tm HB hb1; clear hb1)
 go_upto_region 4 with (first
  | ((with_reducible refine gate_ ?_); refine Cv.load_cells rfl 22 _ rfl sb 0 rfl (Cv.bytesV l) _ (fun j v hv => by rw [Nat.zero_add]; exact Rg.Blk.cell Hsb.out j hv) Tryz.underlying22 rfl (by rw [Cv.bytesV_size, HL.out]; kernel_rfl) ?_)
  | (go_at_call 8; refine (CKE.out _ HG.out).mono ?_; rintro e w2 ⟨rfl, hb1⟩; have Hsb := ϕ (Hsb.out.below hb1 Hsb.out.lt); have HB := tm HB hb1; clear hb1)
  | (refine Rg.store_fresh rfl 22 _ _ rfl (Cv.bytesV ke) _ 22 rfl rfl (by rw [Cv.bytesV_size, HKL.out]; kernel_rfl) (by rw [Cv.bytesV_size, HKL.out]; rfl) (Cv.bytesV_one _) ?_; intro V2 hX hbX; have Hkb := ϕ hX; have Hsb := ϕ (Hsb.out.below hbX Hsb.out.lt); have HB := tm HB hbX; clear hX hbX))
 obtain ⟨kb, hkb⟩ : ∃ n, w2.heap.size = n := ⟨_, rfl⟩
 have Hkb := ϕ (show Rg.Blk V2 kb 22 (Cv.bytesV ke) from hkb ▸ Hkb.out)
 try rw [hkb]
 clear hkb
 refine RL.start (RL.Aft V2) (by kernel_rfl) (RL.Aft.drew (RL.Aft.refl V2)) ?_
 refine' RL.tv 0 ?hk26 ?_
 case hk26 => (intro W hSW; go_simp; try with_reducible rfl)
 try go_frame
 refine' RL.tv 1 ?hk27 ?_
 case hk27 => (intro W hSW; have x1 := Cv.run_string_len (P := Tryz.prog) W 25 5 9 Tryz.underlying25 Tryz.underlying5 Tryz.underlying9 kb 0 32 32 ke HKL.out (Cv.Bytes.of_blk (aft_blk hSW Hkb.out)); go_simp; try with_reducible rfl)
 try go_frame
 refine' RL.tv 2 ?hk28 ?_
 case hk28 => (intro W hSW; go_simp; try with_reducible rfl)
 try go_frame
 refine' RL.tv 3 ?hk29 ?_
 case hk29 => (intro W hSW; have x1 := Cv.run_string_len (P := Tryz.prog) W 25 5 9 Tryz.underlying25 Tryz.underlying5 Tryz.underlying9 sb 0 32 32 l HL.out (Cv.Bytes.of_blk (aft_blk hSW Hsb.out)); go_simp; try with_reducible rfl)
 try go_frame
 refine' RL.tc 4 (v := (.string ⟨ke.toArray⟩)) 9 #[.string ⟨l.toArray⟩] ?hk30 ?hc30 ?_
 case hk30 => (intro W; go_simp; try with_reducible rfl)
 case hc30 => (intro W hSW; exact (CRK.out W).mono (fun e w9 h9 => ⟨h9.1, h9.2, RL.Aft.lat hSW h9.2⟩))
 try go_frame
 refine' RL.tv 5 ?hk31 ?_
 case hk31 => (intro W hSW; have x1 := HEQ.out; go_simp; try with_reducible rfl)
 try go_frame
 refine' RL.tv 6 ?hk32 ?_
 case hk32 => (intro W hSW; go_simp; try with_reducible rfl)
 try go_frame
 refine RL.tw 7 (v := .agg (Cv.bytesV ke)) rfl (fun W hSW => RT.run_row 22 _ rfl _ rfl _ _ (aft_blk hSW Hkb.out) Tryz.underlying22 rfl (by rw [Cv.bytesV_size, HKL.out]; kernel_rfl)) ?_
 try go_frame
 refine' RL.tc 8 (v := (.bool true)) 10 #[.agg (Cv.bytesV ke)] ?hk33 ?hc33 ?_
 case hk33 => (intro W; go_simp; try with_reducible rfl)
 case hc33 => (intro W hSW; exact (CPO.out W).mono (fun e w9 h9 => ⟨h9.1, h9.2, RL.Aft.lat hSW h9.2⟩))
 try go_frame
 refine' RL.tv 9 ?hk34 ?_
 case hk34 => (intro W hSW; go_simp; try with_reducible rfl)
 try go_frame
 refine' RL.tv 10 ?hk35 ?_
 case hk35 => (intro W hSW; go_simp; try with_reducible rfl)
 try go_frame
 refine RL.done (by kernel_rfl) (fun Z hlZ hsZ => ?_)
 have HB := ϕ (HB.out.trans (Below.mono (show RL.Aft V2 Z from hsZ) HB.out.size))
 go_wp2_with fail
 go_ret
 exact ⟨rfl, HW.out ▸ HB.out⟩
theorem law_SignKeysB (w : World) (l : List UInt8) (hl : l.length = 32) (hT : Sha.Tables w) (hO : Ord w) : Calls Tryz.prog 3 #[.agg (Ow.bv l).toArray] w fun e w' => e = .returned (.bool true) ∧ Below w.heap.size w w' := by
 have h := law_SignKeys w l hl ⟨hT, hO⟩
 unfold Cv.bytesV at h
 exact h
open Go.Proofs.YtfpcelmekfdafaaGreatDoor.Dg
theorem Cut08 (w : World) (s : ByteArray) (n : Nat) (hn : n ≤ 1000000) : Calls Tryz.prog 11 #[.string s, .int .i64 n] w fun e w' => e = .returned (.string (s.extract 0 n)) ∧ w = w' := by
 by_cases h : n < s.size
 · go_enter Tryz.func11, Tryz.ntmps11
   go_wp2
   go_ret
   exact ⟨by simp, rfl⟩
 · have e : s.extract 0 n = s := by
    apply ByteArray.ext
    simp
    omega
   have h' : ¬ (n : Int) < s.size := by omega
   go_enter Tryz.func11, Tryz.ntmps11
   go_wp2
   go_ret
   exact ⟨rfl, rfl⟩
theorem cut_bs (w : World) (S : ByteArray) (n : Nat) (hn : n ≤ 1000000) (m : List UInt8) (hm : S.data.toList.take n = m) : Calls Tryz.prog 11 #[.string S, .int .i64 n] w fun e w' => e = .returned (.string (bs m)) ∧ w = w' := by
 have h := Cut08 w S n hn
 rw [← bs_of S, bs_extract, hm] at h
 rw [bs_of S] at h
 exact h
theorem law_SignSigns (w : World) (l : List UInt8) (hl : l.length = 32) (S : ByteArray) (hG : Sg w) : Calls Tryz.prog 4 #[.agg (Cv.bytesV l), .string S] w fun e w' => e = .returned (.bool true) ∧ Below w.heap.size w w' := by
 obtain ⟨m, hm⟩ : ∃ m, S.data.toList.take 100 = m := ⟨_, rfl⟩
 have hml : m.length ≤ 100 := by rw [← hm, List.length_take]; omega
 have HCT := ϕ (fun W => cut_bs W S 100 (by decide) m hm)
 obtain ⟨ke, hke⟩ : ∃ k, pub l = k := ⟨_, rfl⟩
 obtain ⟨r, hr⟩ : ∃ k, enc (rP l m) = k := ⟨_, rfl⟩
 obtain ⟨s, hs⟩ : ∃ k, toLe 32 (sN l (pub l) m) = k := ⟨_, rfl⟩
 have hkl : ke.length = 32 := by rw [← hke]; exact pub_len _
 have hrl : r.length = 32 := by rw [← hr]; exact enc_len _
 have hsl : s.length = 32 := by rw [← hs, toLe_len]
 have v1 := ver_sig l m
 have esg := sig_is l m
 rw [hr, hs] at esg
 rw [hr, hs, hke] at v1
 obtain ⟨sg, hsg⟩ : ∃ g, r ++ s = g := ⟨_, rfl⟩
 rw [hsg] at esg
 have CKE := ϕ (fun W (h : Sg W) => show Calls Tryz.prog 8 #[.agg (Cv.bytesV l)] W fun e w' => e = .returned (.agg (Cv.bytesV ke)) ∧ Below W.heap.size W w' from hke ▸ Key_any W l hl h.t)
 have CSI := ϕ (fun W (h : Sg W) => show Calls Tryz.prog 12 #[.agg (Cv.bytesV l), .string (bs m)] W fun e w' => e = .returned (.agg (Cv.bytesV sg)) ∧ Below W.heap.size W w' from by
  have h := Sign_any W l m hl (by omega) h.t h.o
  rw [esg] at h
  exact h)
 have CRS := ϕ (fun W => show Calls Tryz.prog 13 #[.string ⟨l.toArray⟩, .string ⟨ke.toArray⟩, .string (bs m)] W fun e w' => e = .returned (.string ⟨sg.toArray⟩) ∧ Below W.heap.size W w' from by
  have h := sign8_any W l ke m (by omega) hkl (by omega)
  rw [← hke, esg, hke] at h
  exact h)
 have CVE := ϕ (fun W (h : Sg W) => show Calls Tryz.prog 14 #[.agg (Cv.bytesV ke), .string (bs m), .agg (Cv.bytesV sg)] W fun e w' => e = .returned (.bool true) ∧ Below W.heap.size W w' from by
  have h := Verify_any W ke m r s hkl (by omega) hrl hsl h.t h.o
  rw [v1, hsg] at h
  exact h)
 have HEQ := ϕ (show ((⟨sg.toArray⟩ : ByteArray).toList == (⟨sg.toArray⟩ : ByteArray).toList) = true from by simp)
 have HKL := ϕ hkl
 have HL := ϕ hl
 have HGL := ϕ (show sg.length = 64 from by rw [← hsg, List.length_append]; omega)
 have HG := ϕ hG
 clear hm hml hG hke hkl hl hr hs hrl hsl v1 esg hsg
 go_enter Tryz.func4, Tryz.ntmps4
 go_upto_region 1 with ((with_reducible refine gate_ ?_); refine Rg.box_fresh rfl 22 _ rfl (Cv.bytesV l) rfl ?_; intro X hX hbX hnX; have HX := ϕ hX; have HBX := ϕ hbX; clear hX hbX hnX)
 obtain ⟨sb, hsb⟩ : ∃ n, w.heap.size = n := ⟨_, rfl⟩
 have Hsb := ϕ (show Rg.Blk X sb 22 (Cv.bytesV l) from hsb ▸ HX.out)
 have HB := ϕ (show Below w.heap.size w X from HBX.out)
 have HG := ϕ (HG.out.below HBX.out)
 have HW := ϕ hsb
 try rw [hsb]
 clear HX HBX hsb
 go_upto_region 3 with (go_at_call 7; refine (awake08 _ HG.out).mono ?_; rintro e w1 ⟨rfl, hb1⟩; have Hsb := ϕ (Hsb.out.below hb1 Hsb.out.lt); have HG := ϕ (HG.out.below hb1); have HB := tm HB hb1; clear hb1)
 go_upto_region 5 with (first
  | (go_at_call 11; refine (HCT.out _).mono ?_; rintro e w1b ⟨rfl, rfl⟩; skip)
  | ((with_reducible refine gate_ ?_); refine Cv.load_cells rfl 22 _ rfl sb 0 rfl (Cv.bytesV l) _ (fun j v hv => by rw [Nat.zero_add]; exact Rg.Blk.cell Hsb.out j hv) Tryz.underlying22 rfl (by rw [Cv.bytesV_size, HL.out]; kernel_rfl) ?_)
  | (go_at_call 8; refine (CKE.out _ HG.out).mono ?_; rintro e w2 ⟨rfl, hb1⟩; have Hsb := ϕ (Hsb.out.below hb1 Hsb.out.lt); have HG := ϕ (HG.out.below hb1); have HB := tm HB hb1; clear hb1)
  | (refine Rg.store_fresh rfl 22 _ _ rfl (Cv.bytesV ke) _ 22 rfl rfl (by rw [Cv.bytesV_size, HKL.out]; kernel_rfl) (by rw [Cv.bytesV_size, HKL.out]; rfl) (Cv.bytesV_one _) ?_; intro V2 hX hbX; have Hkb := ϕ hX; have Hsb := ϕ (Hsb.out.below hbX Hsb.out.lt); have HG := ϕ (HG.out.below hbX); have HB := tm HB hbX; clear hX hbX))
 obtain ⟨kb, hkb⟩ : ∃ n, w2.heap.size = n := ⟨_, rfl⟩
 have Hkb := ϕ (show Rg.Blk V2 kb 22 (Cv.bytesV ke) from hkb ▸ Hkb.out)
 try rw [hkb]
 clear hkb
 go_upto_region 6 with (first
  | ((with_reducible refine gate_ ?_); refine Cv.load_cells rfl 22 _ rfl sb 0 rfl (Cv.bytesV l) _ (fun j v hv => by rw [Nat.zero_add]; exact Rg.Blk.cell Hsb.out j hv) Tryz.underlying22 rfl (by rw [Cv.bytesV_size, HL.out]; kernel_rfl) ?_)
  | (go_at_call 12; refine (CSI.out _ HG.out).mono ?_; rintro e w3 ⟨rfl, hb1⟩; have Hsb := ϕ (Hsb.out.below hb1 Hsb.out.lt); have Hkb := ϕ (Hkb.out.below hb1 Hkb.out.lt); have HG := ϕ (HG.out.below hb1); have HB := tm HB hb1; clear hb1)
  | (refine Rg.store_fresh rfl 29 _ _ rfl (Cv.bytesV sg) _ 29 rfl rfl (by rw [Cv.bytesV_size, HGL.out]; kernel_rfl) (by rw [Cv.bytesV_size, HGL.out]; rfl) (Cv.bytesV_one _) ?_; intro V3 hX hbX; have Hgb := ϕ hX; have Hsb := ϕ (Hsb.out.below hbX Hsb.out.lt); have Hkb := ϕ (Hkb.out.below hbX Hkb.out.lt); have HG := ϕ (HG.out.below hbX); have HB := tm HB hbX; clear hX hbX))
 obtain ⟨gb, hgb⟩ : ∃ n, w3.heap.size = n := ⟨_, rfl⟩
 have Hgb := ϕ (show Rg.Blk V3 gb 29 (Cv.bytesV sg) from hgb ▸ Hgb.out)
 try rw [hgb]
 clear hgb
 refine RL.start (RL.Aft V3) (by kernel_rfl) (RL.Aft.drew (RL.Aft.refl V3)) ?_
 refine' RL.tv 0 ?hk36 ?_
 case hk36 => (intro W hSW; go_simp; try with_reducible rfl)
 try go_frame
 refine' RL.tv 1 ?hk37 ?_
 case hk37 => (intro W hSW; have x1 := Cv.run_string_len (P := Tryz.prog) W 25 5 9 Tryz.underlying25 Tryz.underlying5 Tryz.underlying9 gb 0 64 64 sg HGL.out (Cv.Bytes.of_blk (aft_blk hSW Hgb.out)); go_simp; try with_reducible rfl)
 try go_frame
 refine' RL.tv 2 ?hk38 ?_
 case hk38 => (intro W hSW; go_simp; try with_reducible rfl)
 try go_frame
 refine' RL.tv 3 ?hk39 ?_
 case hk39 => (intro W hSW; have x1 := Cv.run_string_len (P := Tryz.prog) W 25 5 9 Tryz.underlying25 Tryz.underlying5 Tryz.underlying9 sb 0 32 32 l HL.out (Cv.Bytes.of_blk (aft_blk hSW Hsb.out)); go_simp; try with_reducible rfl)
 try go_frame
 refine' RL.tv 4 ?hk40 ?_
 case hk40 => (intro W hSW; go_simp; try with_reducible rfl)
 try go_frame
 refine' RL.tv 5 ?hk41 ?_
 case hk41 => (intro W hSW; have x1 := Cv.run_string_len (P := Tryz.prog) W 25 5 9 Tryz.underlying25 Tryz.underlying5 Tryz.underlying9 kb 0 32 32 ke HKL.out (Cv.Bytes.of_blk (aft_blk hSW Hkb.out)); go_simp; try with_reducible rfl)
 try go_frame
 refine' RL.tv 6 ?hk42 ?_
 case hk42 => (intro W hSW; go_simp; try with_reducible rfl)
 try go_frame
 refine' RL.tc 7 (v := (.string ⟨sg.toArray⟩)) 13 #[.string ⟨l.toArray⟩, .string ⟨ke.toArray⟩, .string (bs m)] ?hk43 ?hc43 ?_
 case hk43 => (intro W; go_simp; try with_reducible rfl)
 case hc43 => (intro W hSW; exact (CRS.out W).mono (fun e w9 h9 => ⟨h9.1, h9.2, RL.Aft.lat hSW h9.2⟩))
 try go_frame
 refine' RL.tv 8 ?hk44 ?_
 case hk44 => (intro W hSW; have x1 := HEQ.out; go_simp; try with_reducible rfl)
 try go_frame
 refine' RL.tv 9 ?hk45 ?_
 case hk45 => (intro W hSW; go_simp; try with_reducible rfl)
 try go_frame
 refine RL.tw 10 (v := .agg (Cv.bytesV ke)) rfl (fun W hSW => RT.run_row 22 _ rfl _ rfl _ _ (aft_blk hSW Hkb.out) Tryz.underlying22 rfl (by rw [Cv.bytesV_size, HKL.out]; kernel_rfl)) ?_
 try go_frame
 refine' RL.tv 11 ?hk46 ?_
 case hk46 => (intro W hSW; go_simp; try with_reducible rfl)
 try go_frame
 refine RL.tw 12 (v := .agg (Cv.bytesV sg)) rfl (fun W hSW => RT.run_row 29 _ rfl _ rfl _ _ (aft_blk hSW Hgb.out) Tryz.underlying29 rfl (by rw [Cv.bytesV_size, HGL.out]; kernel_rfl)) ?_
 try go_frame
 refine' RL.tc 13 (v := (.bool true)) 14 #[.agg (Cv.bytesV ke), .string (bs m), .agg (Cv.bytesV sg)] ?hk47 ?hc47 ?_
 case hk47 => (intro W; go_simp; try with_reducible rfl)
 case hc47 => (intro W hSW; exact (CVE.out W (HG.out.aft hSW)).mono (fun e w9 h9 => ⟨h9.1, h9.2, RL.Aft.lat hSW h9.2⟩))
 try go_frame
 refine' RL.tv 14 ?hk48 ?_
 case hk48 => (intro W hSW; go_simp; try with_reducible rfl)
 try go_frame
 refine' RL.tv 15 ?hk49 ?_
 case hk49 => (intro W hSW; go_simp; try with_reducible rfl)
 try go_frame
 refine RL.done (by kernel_rfl) (fun Z hlZ hsZ => ?_)
 have HB := ϕ (HB.out.trans (Below.mono (show RL.Aft V3 Z from hsZ) HB.out.size))
 go_wp2_with fail
 go_ret
 exact ⟨rfl, HW.out ▸ HB.out⟩
theorem law_SignSignsB (w : World) (l : List UInt8) (hl : l.length = 32) (S : ByteArray) (hT : Sha.Tables w) (hO : Ord w) : Calls Tryz.prog 4 #[.agg (Ow.bv l).toArray, .string S] w fun e w' => e = .returned (.bool true) ∧ Below w.heap.size w w' := by
 have h := law_SignSigns w l hl S ⟨hT, hO⟩
 unfold Cv.bytesV at h
 exact h
theorem law_SignPoints (w : World) (l : List UInt8) (hl : l.length = 32) (hG : Sg w) : Calls Tryz.prog 6 #[.agg (Cv.bytesV l)] w fun e w' => e = .returned (.bool true) ∧ Below w.heap.size w w' := by
 have HS32 := ϕ (show (⟨l.toArray⟩ : ByteArray).size = 32 from by show l.toArray.size = 32; rw [List.size_toArray]; exact hl)
 obtain ⟨q, hq⟩ : ∃ q, (dec l).isSome = q := ⟨_, rfl⟩
 have CPO := ϕ (fun W => show Calls Tryz.prog 10 #[.agg (Cv.bytesV l)] W fun e w' => e = .returned (.bool q) ∧ Below W.heap.size W w' from hq ▸ Point_any W l hl)
 have HIS := ϕ (show (dec (⟨l.toArray⟩ : ByteArray).data.toList).isSome = q from hq)
 have HL := ϕ hl
 have HG := ϕ hG
 clear hG hl hq
 go_enter Tryz.func6, Tryz.ntmps6
 go_upto_region 1 with ((with_reducible refine gate_ ?_); refine Rg.box_fresh rfl 22 _ rfl (Cv.bytesV l) rfl ?_; intro X hX hbX hnX; have HX := ϕ hX; have HBX := ϕ hbX; clear hX hbX hnX)
 obtain ⟨sb, hsb⟩ : ∃ n, w.heap.size = n := ⟨_, rfl⟩
 have Hsb := ϕ (show Rg.Blk X sb 22 (Cv.bytesV l) from hsb ▸ HX.out)
 have HB := ϕ (show Below w.heap.size w X from HBX.out)
 have HG := ϕ (HG.out.below HBX.out)
 have HW := ϕ hsb
 try rw [hsb]
 clear HX HBX hsb
 go_upto_region 3 with (go_at_call 7; refine (awake08 _ HG.out).mono ?_; rintro e w1 ⟨rfl, hb1⟩; have Hsb := ϕ (Hsb.out.below hb1 Hsb.out.lt); have HB := tm HB hb1; clear hb1)
 refine RL.start (RL.Aft w1) (by kernel_rfl) (RL.Aft.drew (RL.Aft.refl w1)) ?_
 refine' RL.tv 1 ?hk50 ?_
 case hk50 => (intro W hSW; go_simp; try with_reducible rfl)
 try go_frame
 refine' RL.tv 2 ?hk51 ?_
 case hk51 => (intro W hSW; have x1 := Cv.run_string_len (P := Tryz.prog) W 25 5 9 Tryz.underlying25 Tryz.underlying5 Tryz.underlying9 sb 0 32 32 l HL.out (Cv.Bytes.of_blk (aft_blk hSW Hsb.out)); go_simp; try with_reducible rfl)
 try go_frame
 refine RL.step2 (i := 0) (j := 7) rfl rfl (by kernel_rfl) (by rfl) (by rfl) (fun y1 hly1 hsy1 K hK => ?_) (fun y1 hly1 hsy1 K hK => ?_)
 · refine RL.wp_enter (F := 17) (args := #[]) (by go_simp; try rfl) ?_
   refine (D_any y1).mono ?_
   rintro e y1x ⟨⟨vd, rfl, kvd⟩, hb⟩
   have hSy1x : RL.Aft w1 y1x := RL.Aft.lat hsy1 hb
   refine ⟨_, rfl, hK.out _ _ (RL.Aft.lat hsy1 hb) ?_⟩
   clear hK
   try go_frame
   refine RL.step2 (i := 3) (j := 7) rfl rfl (by kernel_rfl) (by rfl) (by rfl) (fun y2 hly2 hsy2 K hK => ?_) (fun y2 hly2 hsy2 K hK => ?_)
   · have kvd := kvd.below hly2
     refine RL.wp_enter (F := 16) (args := #[vd, .string ⟨l.toArray⟩]) (by go_simp; try rfl) ?_
     refine (read8_any y2 vd ⟨l.toArray⟩ kvd HS32.out).mono ?_
     rintro e y2x ⟨⟨u, rfl, ⟨A1, n1, c1, A2, n2, c2, A3, n3, c3, rfl⟩, kq⟩, hb⟩
     have hSy2x : RL.Aft w1 y2x := RL.Aft.lat hsy2 hb
     have kvd := kvd.below hb
     refine ⟨_, rfl, hK.out _ _ (RL.Aft.lat hsy2 hb) ?_⟩
     clear hK
     try go_frame
     refine' RL.tv 4 ?hk52 ?_
     case hk52 => (intro W hSW; go_simp; try with_reducible rfl)
     try go_frame
     refine' RL.tv 5 ?hk53 ?_
     case hk53 => (intro W hSW; go_simp; try with_reducible rfl)
     try go_frame
     refine' RL.tv 6 ?hk54 ?_
     case hk54 => (intro W hSW; go_simp; try with_reducible rfl)
     try go_frame
     refine RL.sk 7 (fun y3 hly3 hsy3 K hK => ?_)
     have kvd := kvd.below hly3
     refine RL.wp_made (v := .pointer (some ⟨y3.heap.size, 0, none⟩)) (w' := y3.alloc (.cells #[.slice none 0 0, .slice none 0 0, .slice none 0 0] 40)) (by go_simp; try rfl) ?_
     obtain ⟨ab, hab⟩ : ∃ n, y3.heap.size = n := ⟨_, rfl⟩
     have hba : Below y3.heap.size y3 (y3.alloc (.cells #[.slice none 0 0, .slice none 0 0, .slice none 0 0] 40)) := (Below.refl _ _).alloc (Nat.le_refl _) _
     have kab : Rg.Blk (y3.alloc (.cells #[.slice none 0 0, .slice none 0 0, .slice none 0 0] 40)) ab 40 #[.slice none 0 0, .slice none 0 0, .slice none 0 0] := Rg.Blk.newAt hab.symm _ _
     have gab : w1.heap.size ≤ ab := by rw [← hab]; exact (show RL.Aft w1 y3 from hsy3).size
     have kvd := kvd.below hba
     refine hK.out _ _ (RL.Aft.alloc hsy3 _) ?_
     try rw [hab]
     have hSy3y : RL.Aft w1 (y3.alloc (.cells #[.slice none 0 0, .slice none 0 0, .slice none 0 0] 40)) := RL.Aft.alloc hsy3 _
     generalize hyy3 : y3.alloc (.cells #[.slice none 0 0, .slice none 0 0, .slice none 0 0] 40) = y3y at *
     clear hab hba hyy3
     clear hK
     try go_frame
     refine RL.norm #[true, true, true, true, true, true, true, true, false, false] (by kernel_rfl) ?_
     refine RL.sk 8 (fun va hlva hsva K hK => ?_)
     have kab := kab.below hlva kab.lt
     refine store_blk_op 40 _ _ rfl ab #[.slice A1 n1 c1, .slice A2 n2 c2, .slice A3 n3 c3] _ 40 rfl (by rfl) kab (by kernel_rfl) rfl (by simp [Value.oneCell']) ?_
     intro Y hY hgY
     refine hK.out _ _ (Below.grown hsva hgY (Below.size hsva) (fun k hk => by cases hk; exact gab)) ?_
     clear hK
     try go_frame
     refine' RL.tv 9 ?hk55 ?_
     case hk55 => (intro W hSW; go_simp; try with_reducible rfl)
     try go_frame
     refine RL.done (by kernel_rfl) (fun V hlV hsV => ?_)
     have HA := ϕ (show RL.Aft w1 V from hsV)
     have Hsb := ϕ (aft_blk HA.out Hsb.out)
     have HB := ϕ (HB.out.trans (Below.mono HA.out HB.out.size))
     go_wp2_with (first
      | ((with_reducible refine gate_ ?_); refine Cv.load_cells rfl 22 _ rfl sb 0 rfl (Cv.bytesV l) _ (fun j v hv => by rw [Nat.zero_add]; exact Rg.Blk.cell Hsb.out j hv) Tryz.underlying22 rfl (by rw [Cv.bytesV_size, HL.out]; kernel_rfl) ?_)
      | (go_at_call 10; refine (CPO.out _).mono ?_; rintro e w4 ⟨rfl, hb1⟩; have HB := tm HB hb1; clear hb1))
     go_ret
     exact ⟨by have h := HIS.out; rw [h]; simp, HW.out ▸ HB.out⟩
   · have kvd := kvd.below hly2
     refine RL.wp_made (v := .pointer (some ⟨y2.heap.size, 0, none⟩)) (w' := y2.alloc (.cells #[.slice none 0 0, .slice none 0 0, .slice none 0 0] 40)) (by go_simp; try rfl) ?_
     obtain ⟨ab, hab⟩ : ∃ n, y2.heap.size = n := ⟨_, rfl⟩
     have hba : Below y2.heap.size y2 (y2.alloc (.cells #[.slice none 0 0, .slice none 0 0, .slice none 0 0] 40)) := (Below.refl _ _).alloc (Nat.le_refl _) _
     have kab : Rg.Blk (y2.alloc (.cells #[.slice none 0 0, .slice none 0 0, .slice none 0 0] 40)) ab 40 #[.slice none 0 0, .slice none 0 0, .slice none 0 0] := Rg.Blk.newAt hab.symm _ _
     have gab : w1.heap.size ≤ ab := by rw [← hab]; exact (show RL.Aft w1 y2 from hsy2).size
     have kvd := kvd.below hba
     refine hK.out _ _ (RL.Aft.alloc hsy2 _) ?_
     try rw [hab]
     have hSy2y : RL.Aft w1 (y2.alloc (.cells #[.slice none 0 0, .slice none 0 0, .slice none 0 0] 40)) := RL.Aft.alloc hsy2 _
     generalize hyy2 : y2.alloc (.cells #[.slice none 0 0, .slice none 0 0, .slice none 0 0] 40) = y2y at *
     clear hab hba hyy2
     clear hK
     try go_frame
     refine RL.sk 3 (fun y4 hly4 hsy4 K hK => ?_)
     have kvd := kvd.below hly4
     have kab := kab.below hly4 kab.lt
     refine RL.wp_enter (F := 16) (args := #[vd, .string ⟨l.toArray⟩]) (by go_simp; try rfl) ?_
     refine (read8_any y4 vd ⟨l.toArray⟩ kvd HS32.out).mono ?_
     rintro e y4x ⟨⟨u, rfl, ⟨A1, n1, c1, A2, n2, c2, A3, n3, c3, rfl⟩, kq⟩, hb⟩
     have hSy4x : RL.Aft w1 y4x := RL.Aft.lat hsy4 hb
     have kvd := kvd.below hb
     have kab := kab.below hb kab.lt
     refine ⟨_, rfl, hK.out _ _ (RL.Aft.lat hsy4 hb) ?_⟩
     clear hK
     try go_frame
     refine' RL.tv 4 ?hk56 ?_
     case hk56 => (intro W hSW; go_simp; try with_reducible rfl)
     try go_frame
     refine' RL.tv 5 ?hk57 ?_
     case hk57 => (intro W hSW; go_simp; try with_reducible rfl)
     try go_frame
     refine' RL.tv 6 ?hk58 ?_
     case hk58 => (intro W hSW; go_simp; try with_reducible rfl)
     try go_frame
     refine RL.norm #[true, true, true, true, true, true, true, true, false, false] (by kernel_rfl) ?_
     refine RL.sk 8 (fun va hlva hsva K hK => ?_)
     have kab := kab.below hlva kab.lt
     refine store_blk_op 40 _ _ rfl ab #[.slice A1 n1 c1, .slice A2 n2 c2, .slice A3 n3 c3] _ 40 rfl (by rfl) kab (by kernel_rfl) rfl (by simp [Value.oneCell']) ?_
     intro Y hY hgY
     refine hK.out _ _ (Below.grown hsva hgY (Below.size hsva) (fun k hk => by cases hk; exact gab)) ?_
     clear hK
     try go_frame
     refine' RL.tv 9 ?hk59 ?_
     case hk59 => (intro W hSW; go_simp; try with_reducible rfl)
     try go_frame
     refine RL.done (by kernel_rfl) (fun V hlV hsV => ?_)
     have HA := ϕ (show RL.Aft w1 V from hsV)
     have Hsb := ϕ (aft_blk HA.out Hsb.out)
     have HB := ϕ (HB.out.trans (Below.mono HA.out HB.out.size))
     go_wp2_with (first
      | ((with_reducible refine gate_ ?_); refine Cv.load_cells rfl 22 _ rfl sb 0 rfl (Cv.bytesV l) _ (fun j v hv => by rw [Nat.zero_add]; exact Rg.Blk.cell Hsb.out j hv) Tryz.underlying22 rfl (by rw [Cv.bytesV_size, HL.out]; kernel_rfl) ?_)
      | (go_at_call 10; refine (CPO.out _).mono ?_; rintro e w4 ⟨rfl, hb1⟩; have HB := tm HB hb1; clear hb1))
     go_ret
     exact ⟨by have h := HIS.out; rw [h]; simp, HW.out ▸ HB.out⟩
 · refine RL.wp_made (v := .pointer (some ⟨y1.heap.size, 0, none⟩)) (w' := y1.alloc (.cells #[.slice none 0 0, .slice none 0 0, .slice none 0 0] 40)) (by go_simp; try rfl) ?_
   obtain ⟨ab, hab⟩ : ∃ n, y1.heap.size = n := ⟨_, rfl⟩
   have hba : Below y1.heap.size y1 (y1.alloc (.cells #[.slice none 0 0, .slice none 0 0, .slice none 0 0] 40)) := (Below.refl _ _).alloc (Nat.le_refl _) _
   have kab : Rg.Blk (y1.alloc (.cells #[.slice none 0 0, .slice none 0 0, .slice none 0 0] 40)) ab 40 #[.slice none 0 0, .slice none 0 0, .slice none 0 0] := Rg.Blk.newAt hab.symm _ _
   have gab : w1.heap.size ≤ ab := by rw [← hab]; exact (show RL.Aft w1 y1 from hsy1).size
   refine hK.out _ _ (RL.Aft.alloc hsy1 _) ?_
   try rw [hab]
   have hSy1y : RL.Aft w1 (y1.alloc (.cells #[.slice none 0 0, .slice none 0 0, .slice none 0 0] 40)) := RL.Aft.alloc hsy1 _
   generalize hyy1 : y1.alloc (.cells #[.slice none 0 0, .slice none 0 0, .slice none 0 0] 40) = y1y at *
   clear hab hba hyy1
   clear hK
   try go_frame
   refine RL.sk 0 (fun y5 hly5 hsy5 K hK => ?_)
   have kab := kab.below hly5 kab.lt
   refine RL.wp_enter (F := 17) (args := #[]) (by go_simp; try rfl) ?_
   refine (D_any y5).mono ?_
   rintro e y5x ⟨⟨vd, rfl, kvd⟩, hb⟩
   have hSy5x : RL.Aft w1 y5x := RL.Aft.lat hsy5 hb
   have kab := kab.below hb kab.lt
   refine ⟨_, rfl, hK.out _ _ (RL.Aft.lat hsy5 hb) ?_⟩
   clear hK
   try go_frame
   refine RL.sk 3 (fun y6 hly6 hsy6 K hK => ?_)
   have kab := kab.below hly6 kab.lt
   have kvd := kvd.below hly6
   refine RL.wp_enter (F := 16) (args := #[vd, .string ⟨l.toArray⟩]) (by go_simp; try rfl) ?_
   refine (read8_any y6 vd ⟨l.toArray⟩ kvd HS32.out).mono ?_
   rintro e y6x ⟨⟨u, rfl, ⟨A1, n1, c1, A2, n2, c2, A3, n3, c3, rfl⟩, kq⟩, hb⟩
   have hSy6x : RL.Aft w1 y6x := RL.Aft.lat hsy6 hb
   have kab := kab.below hb kab.lt
   have kvd := kvd.below hb
   refine ⟨_, rfl, hK.out _ _ (RL.Aft.lat hsy6 hb) ?_⟩
   clear hK
   try go_frame
   refine' RL.tv 4 ?hk60 ?_
   case hk60 => (intro W hSW; go_simp; try with_reducible rfl)
   try go_frame
   refine' RL.tv 5 ?hk61 ?_
   case hk61 => (intro W hSW; go_simp; try with_reducible rfl)
   try go_frame
   refine' RL.tv 6 ?hk62 ?_
   case hk62 => (intro W hSW; go_simp; try with_reducible rfl)
   try go_frame
   refine RL.norm #[true, true, true, true, true, true, true, true, false, false] (by kernel_rfl) ?_
   refine RL.sk 8 (fun va hlva hsva K hK => ?_)
   have kab := kab.below hlva kab.lt
   refine store_blk_op 40 _ _ rfl ab #[.slice A1 n1 c1, .slice A2 n2 c2, .slice A3 n3 c3] _ 40 rfl (by rfl) kab (by kernel_rfl) rfl (by simp [Value.oneCell']) ?_
   intro Y hY hgY
   refine hK.out _ _ (Below.grown hsva hgY (Below.size hsva) (fun k hk => by cases hk; exact gab)) ?_
   clear hK
   try go_frame
   refine' RL.tv 9 ?hk63 ?_
   case hk63 => (intro W hSW; go_simp; try with_reducible rfl)
   try go_frame
   refine RL.done (by kernel_rfl) (fun V hlV hsV => ?_)
   have HA := ϕ (show RL.Aft w1 V from hsV)
   have Hsb := ϕ (aft_blk HA.out Hsb.out)
   have HB := ϕ (HB.out.trans (Below.mono HA.out HB.out.size))
   go_wp2_with (first
    | ((with_reducible refine gate_ ?_); refine Cv.load_cells rfl 22 _ rfl sb 0 rfl (Cv.bytesV l) _ (fun j v hv => by rw [Nat.zero_add]; exact Rg.Blk.cell Hsb.out j hv) Tryz.underlying22 rfl (by rw [Cv.bytesV_size, HL.out]; kernel_rfl) ?_)
    | (go_at_call 10; refine (CPO.out _).mono ?_; rintro e w4 ⟨rfl, hb1⟩; have HB := tm HB hb1; clear hb1))
   go_ret
   exact ⟨by have h := HIS.out; rw [h]; simp, HW.out ▸ HB.out⟩
theorem law_SignPointsB (w : World) (l : List UInt8) (hl : l.length = 32) (hT : Sha.Tables w) (hO : Ord w) : Calls Tryz.prog 6 #[.agg (Ow.bv l).toArray] w fun e w' => e = .returned (.bool true) ∧ Below w.heap.size w w' := by
 have h := law_SignPoints w l hl ⟨hT, hO⟩
 unfold Cv.bytesV at h
 exact h
end Go.Proofs.YtfpcelmekfdafaaGreatDoor.Kx
namespace Go.Proofs.YtfpcelmekfdafaaGreatDoor.Og
open Go.RowKit Go.ChangeShapes Go.WideShapes Go.Joins Go.Deep Go.Proofs.YtfpcelmekfdafaaGreatDoor.Ow
variable {H : Type} {enc : TypeId × Value → H} {P : Program} {W : World}
/-- an array whose elements have one cell each -/
theorem open_arr {r : Reach} {b0 : Nat} {t e : TypeId} {n : Nat} {v : Value} {d : DataW H} {p : List MemPlace} (ht : P.underlying t = some (.array n e)) (hc : P.cellsOf e = 1) (hC : P.cellsOf t = n)
 (hv : Value.okWide P W r b0 t v) (h : DataW.Trod enc P W 0 (fun _ => true) true t v d p) : ∃ xs : List Value, v = .agg xs.toArray ∧ xs.length = n ∧ ∀ x ∈ xs, Reads enc P W e x := by
 simp only [Value.okWide, ht] at hv
 obtain ⟨cs, rfl, hsz, _⟩ := hv
 obtain ⟨fuel, hf⟩ := h
 obtain ⟨xs, m, _, _, _, hlen, hg⟩ := DataW.trod_array ht hf
 have hcl : cs.size = n := hsz.trans hC
 refine ⟨cs.toList, by simp, by simpa using hcl, fun x hx => ?_⟩
 obtain ⟨i, hi⟩ := List.mem_iff_getElem?.1 hx
 have hin : i < n := by
  have := (List.getElem?_eq_some_iff.1 hi).1
  simp at this; omega
 have h1 := hg i hin
 rw [hc, Nat.mul_one] at h1
 have e1 : ((Value.agg cs).cells.toList.drop i).take 1 = [x] := by
  have e0 : (Value.agg cs).cells.toList = cs.toList := by simp [Value.cells]
  rw [e0, List.drop_eq_getElem_cons (by simpa using (show i < cs.size by omega))]
  rw [List.getElem?_eq_getElem (by simpa using (show i < cs.size by omega))] at hi
  injection hi with hi
  rw [hi]; rfl
 rw [e1, List.getElem?_eq_getElem (by omega)] at h1
 exact ⟨m, _, h1⟩
theorem open_bytes {r : Reach} {b0 : Nat} {t e : TypeId} {n : Nat} {v : Value} {d : DataW H} {p : List MemPlace} (ht : P.underlying t = some (.array n e)) (he : P.underlying e = some (.int .u8)) (hc : P.cellsOf e = 1) (hC : P.cellsOf t = n)
 (hv : Value.okWide P W r b0 t v) (h : DataW.Trod enc P W 0 (fun _ => true) true t v d p) : ∃ l : List UInt8, v = .agg (bv l).toArray ∧ l.length = n := by
 obtain ⟨xs, rfl, hl, hx⟩ := open_arr ht hc hC hv h
 obtain ⟨l, rfl, _⟩ := map_of (f := fun (x : UInt8) => Value.int .u8 (x.toNat : Int)) (p := fun _ => True) (xs := xs) (fun x h => by
  obtain ⟨n, rfl, hw⟩ := open_int1 he (hx x h)
  have hb := bounds_u8 hw
  refine ⟨UInt8.ofNat n.toNat, ?_, trivial⟩
  have : (UInt8.ofNat n.toNat).toNat = n.toNat := by rw [UInt8.toNat_ofNat']; omega
  rw [this, Int.toNat_of_nonneg (by omega)])
 exact ⟨l, rfl, by simpa using hl⟩
end Go.Proofs.YtfpcelmekfdafaaGreatDoor.Og
