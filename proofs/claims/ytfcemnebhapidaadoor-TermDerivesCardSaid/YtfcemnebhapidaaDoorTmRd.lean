/- The law TermReads. -/
import Derived.Test.YtfcemnebhapidaaDoorTmRc
import Derived.Test.YtfcemnebhapidaaDoorTmAw
set_option linter.unusedVariables false
set_option linter.unusedSimpArgs false
namespace Go.Proofs.YtfcemnebhapidaaDoor.Te
open Go.RowKit Go.Proofs.YtfcemnebhapidaaDoor.Ow Go.Proofs.YtfcemnebhapidaaDoor.Mp Go.Maps
theorem Cut31 (w : World) (s : ByteArray) (n : Nat) (hn : n ≤ 1000000) : Calls Tryd.prog 14 #[.string s, .int .i64 n] w fun e w' => e = .returned (.string (s.extract 0 n)) ∧ w = w' := by
  by_cases h : n < s.size
  · go_enter Tryd.func14, Tryd.ntmps14
    go_wp2
    go_ret
    exact ⟨by simp, rfl⟩
  · have e : s.extract 0 n = s := by
      apply ByteArray.ext
      simp
      omega
    have h' : ¬ (n : Int) < s.size := by omega
    go_enter Tryd.func14, Tryd.ntmps14
    go_wp2
    go_ret
    exact ⟨rfl, rfl⟩
set_option maxRecDepth 20000 in
set_option maxHeartbeats 4000000 in
theorem Reads_none (w : World) (S : ByteArray) (u : List UInt8) (hu : u.length ≤ 300) (hp : parse u = none) (hct : ∀ W : World, Calls Tryd.prog 14 #[.string S, .int .i64 300] W fun e w' => e = .returned (.string (strB u)) ∧ W = w') (a : Nat → Addr) (hE : Ei.ErrsAll w a) : Calls Tryd.prog 7 #[.string S] w fun e w' => e = .returned (.bool true) ∧ Below w.heap.size w w' := by
  have HAW := Lib.hid (awake31 w a (.of hE))
  have HCT := Lib.hid hct
  have HPA := Lib.hid (fun W (hW : Below w.heap.size w W) => Parse_none W u (by omega) hp a (.of (hE.below hW)))
  have HCA := Lib.hid (show ∀ W, Calls Tryd.prog 17 #[.string (strB u)] W fun e w' => (∃ y : List UInt8, y.length ≤ 100000 ∧ e = .returned (.tuple #[.string (strB y), .bool false])) ∧ Below W.heap.size W w' from fun W => (RCanon_any _ W u (Nat.lt_succ_self _) (by omega)).mono (by rintro e w' ⟨h, hb⟩; rw [hp] at h; exact ⟨h, hb⟩))
  have HCO := Lib.hid (fun W (hW : Below w.heap.size w W) => show Calls Tryd.prog 22 #[.iface 137 (.pointer (some (a 3)))] W fun e w' => e = .returned (.int .i64 3) ∧ W = w' from Ei.Code_any W a (hE.below hW) 3 (by decide))
  have HPT := Lib.hid (fun W => TParts_any W ⟨#[]⟩ ⟨#[]⟩ (.atom []) (.slice none 0 0) rfl)
  clear hct hp hE hu
  go_enter Tryd.func7, Tryd.ntmps7
  go_wp2_with (first
    | (go_at_call 9; refine HAW.out.mono ?_; rintro e w1 ⟨rfl, hb1⟩; skip; have HB := Lib.hid hb1; clear hb1)
    | (go_at_call 14; refine (HCT.out _).mono ?_; rintro e w2 ⟨rfl, rfl⟩; skip)
    | (go_at_call 24; refine (HPA.out _ HB.out).mono ?_; rintro e w3 ⟨rfl, hb⟩; skip; have HBy := Lib.hid (HB.out.trans (Below.mono hb HB.out.size)); clear HB; have HB := HBy; clear HBy; clear hb)
    | (refine Rg.store_fresh rfl 31 _ _ rfl #[.string ⟨#[]⟩, .string ⟨#[]⟩, .slice none 0 0] _ 31 rfl rfl (by kernel_rfl) rfl (by simp [Value.oneCell']) ?_; intro XHX hX hbX; have HX := Lib.hid hX; have HBy := Lib.hid (HB.out.trans (Below.mono hbX HB.out.size)); clear HB; have HB := HBy; clear HBy; have x0 := HX.out.cell 0 (v := .string ⟨#[]⟩) rfl; have x1 := HX.out.cell 1 (v := .string ⟨#[]⟩) rfl; have x2 := HX.out.cell 2 (v := .slice none 0 0) rfl; clear hX hbX)
    | (go_at_call 17; refine (HCA.out _).mono ?_; rintro e w4 ⟨⟨y, _, rfl⟩, hb⟩; skip; have HBy := Lib.hid (HB.out.trans (Below.mono hb HB.out.size)); clear HB; have HB := HBy; clear HBy; have HXy := Lib.hid (HX.out.below hb HX.out.lt); clear HX; have HX := HXy; clear HXy; have x0 := HX.out.cell 0 (v := .string ⟨#[]⟩) rfl; have x1 := HX.out.cell 1 (v := .string ⟨#[]⟩) rfl; have x2 := HX.out.cell 2 (v := .slice none 0 0) rfl; clear hb)
    | (go_at_call 22; refine (HCO.out _ HB.out).mono ?_; rintro e w5 ⟨rfl, rfl⟩; skip)
    | (go_at_call 25; refine (Text_any _ _ _ _ _ _).mono ?_; rintro e w6 ⟨rfl, hb⟩; skip; have HBy := Lib.hid (HB.out.trans (Below.mono hb HB.out.size)); clear HB; have HB := HBy; clear HBy; have HXy := Lib.hid (HX.out.below hb HX.out.lt); clear HX; have HX := HXy; clear HXy; have x0 := HX.out.cell 0 (v := .string ⟨#[]⟩) rfl; have x1 := HX.out.cell 1 (v := .string ⟨#[]⟩) rfl; have x2 := HX.out.cell 2 (v := .slice none 0 0) rfl; clear hb)
    | (go_at_call 26; refine (Kind_any _ _ _ _ _ _).mono ?_; rintro e w7 ⟨rfl, hb⟩; skip; have HBy := Lib.hid (HB.out.trans (Below.mono hb HB.out.size)); clear HB; have HB := HBy; clear HBy; have HXy := Lib.hid (HX.out.below hb HX.out.lt); clear HX; have HX := HXy; clear HXy; have x0 := HX.out.cell 0 (v := .string ⟨#[]⟩) rfl; have x1 := HX.out.cell 1 (v := .string ⟨#[]⟩) rfl; have x2 := HX.out.cell 2 (v := .slice none 0 0) rfl; clear hb)
    | (go_at_call 27; refine (HPT.out _).mono ?_; rintro e w8 ⟨v8, rfl, ⟨A8, c8, ps8, rfl, _⟩, hb⟩; skip; have HBy := Lib.hid (HB.out.trans (Below.mono hb HB.out.size)); clear HB; have HB := HBy; clear HBy; clear hb))
  go_ret
  exact ⟨rfl, HB.out⟩
theorem ts_form {w w' : World} {v : Value} {l : List Tm} (h : TS (TP w) w' v l) : ∃ (A : Option Addr) (c : Nat) (zl : List (Tm × Value)), v = .slice A l.length c ∧ zl.length = l.length ∧ zl.map (·.1) = l ∧ Rd w' A (tcs zl) ∧ ∀ x ∈ zl, TP w x.1 x.2 := by
  obtain ⟨A, c, ps, rfl, _, _, h3, h4, h5⟩ := h
  refine ⟨A, c, l.zip ps, rfl, by rw [List.length_zip, h3, Nat.min_self], List.map_fst_zip (by omega), h4, fun x hx => ?_⟩
  obtain ⟨j, hj⟩ := List.getElem?_of_mem hx
  rw [List.getElem?_zip_eq_some] at hj
  exact h5 j _ _ hj.1 hj.2
set_option maxRecDepth 20000 in
set_option maxHeartbeats 8000000 in
theorem Reads_some (w : World) (S : ByteArray) (u : List UInt8) (t : Tm) (hu : u.length ≤ 300) (hp : parse u = some t) (hct : ∀ W : World, Calls Tryd.prog 14 #[.string S, .int .i64 300] W fun e w' => e = .returned (.string (strB u)) ∧ W = w') (a : Nat → Addr) (hE : Ei.ErrsAll w a) : Calls Tryd.prog 7 #[.string S] w fun e w' => e = .returned (.bool true) ∧ Below w.heap.size w w' := by
  have HAW := Lib.hid (awake31 w a (.of hE))
  have HCT := Lib.hid hct
  have hwf : t.wf := (parse_iff.1 hp).wf
  have hlt : t.txt.length = u.length := parse_len hp
  have hsp := spl_txt hwf
  have HPA := Lib.hid (fun W => Parse_some W u t (by omega) hp)
  have HPB := Lib.hid (fun W => Parse_some W t.txt t (by omega) (parse_iff.2 (Prs.self hwf)))
  have HCA := Lib.hid (show ∀ W, Calls Tryd.prog 17 #[.string (strB u)] W fun e w' => e = .returned (.tuple #[.string (strB t.txt), .bool true]) ∧ Below W.heap.size W w' from fun W => (RCanon_any _ W u (Nat.lt_succ_self _) (by omega)).mono (by rintro e w' ⟨h, hb⟩; rw [hp] at h; exact ⟨h, hb⟩))
  have HSPL := Lib.hid (show ∀ W, Calls Tryd.prog 18 #[.string (strB t.txt)] W fun e w' => ∃ v, e = .returned (.tuple #[.string (strB t.knd), v]) ∧ Owns w' W.heap.size 9 v ((t.prt.map Tm.txt).map encStr) ∧ Below W.heap.size W w' from fun W => (RSplit_any W (strB t.txt) (by rw [strB_size]; omega)).mono (by
    rintro e w' ⟨v, rfl, ho, hb⟩
    rw [show (strB t.txt).data.toList = t.txt from rfl, hsp] at ho
    exact ⟨v, by rw [show (strB t.txt).data.toList = t.txt from rfl, hsp], ho, hb⟩))
  have hn2 : t.prt.length ≤ 2 := by cases t <;> simp [Tm.prt]
  clear hct hp hE hu hwf hlt hsp
  go_enter Tryd.func7, Tryd.ntmps7
  go_wp2_with (first
    | (go_at_call 9; refine HAW.out.mono ?_; rintro e w1 ⟨rfl, hb1⟩; skip; have HB := Lib.hid hb1; clear hb1)
    | (go_at_call 14; refine (HCT.out _).mono ?_; rintro e w2 ⟨rfl, rfl⟩; skip)
    | (go_at_call 24; refine (HPA.out _).mono ?_; rintro e w3 ⟨p, rfl, hft, hb⟩; obtain ⟨A, c, rfl⟩ := hft.tp.slice; skip; have HT := Lib.hid hft.tp; have HBy := Lib.hid (HB.out.trans (Below.mono hb HB.out.size)); clear HB; have HB := HBy; clear HBy; clear hft hb)
    | (refine Rg.store_fresh rfl 31 _ _ rfl #[.string (strB (Tm.knd t)), .string (strB (Tm.txt t)), .slice A (Tm.prt t).length c] _ 31 rfl rfl (by kernel_rfl) rfl (by simp [Value.oneCell']) ?_; intro XHX hX hbX; have HX := Lib.hid hX; have HBy := Lib.hid (HB.out.trans (Below.mono hbX HB.out.size)); clear HB; have HB := HBy; clear HBy; have HTy := Lib.hid (HT.out.below hbX); clear HT; have HT := HTy; clear HTy; have x0 := HX.out.cell 0 (v := .string (strB (Tm.knd t))) rfl; have x1 := HX.out.cell 1 (v := .string (strB (Tm.txt t))) rfl; have x2 := HX.out.cell 2 (v := .slice A (Tm.prt t).length c) rfl; clear hX hbX)
    | (go_at_call 17; refine (HCA.out _).mono ?_; rintro e w4 ⟨rfl, hb⟩; skip; have HBy := Lib.hid (HB.out.trans (Below.mono hb HB.out.size)); clear HB; have HB := HBy; clear HBy; have HTy := Lib.hid (HT.out.below hb); clear HT; have HT := HTy; clear HTy; have HXy := Lib.hid (HX.out.below hb HX.out.lt); clear HX; have HX := HXy; clear HXy; have x0 := HX.out.cell 0 (v := .string (strB (Tm.knd t))) rfl; have x1 := HX.out.cell 1 (v := .string (strB (Tm.txt t))) rfl; have x2 := HX.out.cell 2 (v := .slice A (Tm.prt t).length c) rfl; clear hb)
    | (go_at_call 18; refine (HSPL.out _).mono ?_; rintro e w5 ⟨v8, rfl, ho, hb⟩; obtain ⟨A8, c8, rfl, hr8, _⟩ := ho.form; rw [List.length_map, List.length_map]; skip; have HR8 := Lib.hid hr8; have HBy := Lib.hid (HB.out.trans (Below.mono hb HB.out.size)); clear HB; have HB := HBy; clear HBy; have HTy := Lib.hid (HT.out.below hb); clear HT; have HT := HTy; clear HTy; have HXy := Lib.hid (HX.out.below hb HX.out.lt); clear HX; have HX := HXy; clear HXy; have x0 := HX.out.cell 0 (v := .string (strB (Tm.knd t))) rfl; have x1 := HX.out.cell 1 (v := .string (strB (Tm.txt t))) rfl; have x2 := HX.out.cell 2 (v := .slice A (Tm.prt t).length c) rfl; clear ho hr8 hb)
    | (refine Cv.load_cells rfl 31 _ rfl w3.heap.size 0 rfl #[.string (strB (Tm.knd t)), .string (strB (Tm.txt t)), .slice A (Tm.prt t).length c] _ (fun j v hv => by rw [Nat.zero_add]; exact HX.out.cell j hv) Tryd.underlying31 rfl (by kernel_rfl) ?_; skip)
    | (go_at_call 27; refine (TParts_any _ _ _ t _ HT.out).mono ?_; rintro e w6 ⟨v6, rfl, hts, hb⟩; obtain ⟨A6, c6, zl, rfl, hzl, hzm, hrz, hzt⟩ := ts_form hts; skip; have HBy := Lib.hid (HB.out.trans (Below.mono hb HB.out.size)); clear HB; have HB := HBy; clear HBy; have HTy := Lib.hid (HT.out.below hb); clear HT; have HT := HTy; clear HTy; have HXy := Lib.hid (HX.out.below hb HX.out.lt); clear HX; have HX := HXy; clear HXy; have x0 := HX.out.cell 0 (v := .string (strB (Tm.knd t))) rfl; have x1 := HX.out.cell 1 (v := .string (strB (Tm.txt t))) rfl; have x2 := HX.out.cell 2 (v := .slice A (Tm.prt t).length c) rfl; have HR8y := Lib.hid (HR8.out.below hb); clear HR8; have HR8 := HR8y; clear HR8y; have HZL := Lib.hid hzl; have HZM := Lib.hid hzm; have HRZ := Lib.hid hrz; have HZT := Lib.hid hzt; clear hts hb hzl hzm hrz hzt))
  obtain ⟨n, hn⟩ : ∃ n, t.prt.length = n := ⟨_, rfl⟩
  have HN := Lib.hid hn
  rw [hn] at hn2 HX HT HZL
  try rw [hn]
  clear x0 x1 x2
  have x2 := True.intro
  clear x2 hn
  go_loopw [9, 57] (fun v i wr => ∃ k : Nat, k ≤ n ∧ i = .int .i64 k ∧ Owns wr w6.heap.size 9 v ((zl.take k).map fun x => Value.string (strB x.1.txt)) ∧ Below w6.heap.size w6 wr) (fun _ i _ => n - (intOf i).toNat)
  case atStart => exact ⟨0, Nat.zero_le _, rfl, Owns.nil _ _ _, Below.refl _ _⟩
  case round =>
    obtain ⟨k, hk, rfl, hO, hbw⟩ := hrel
    have HO := Lib.hid hO
    have HW := Lib.hid hbw
    clear hO hbw
    by_cases hkn : k < n
    · have hd : decide (k < n) = true := by simp; exact hkn
      have hik : (k : Int) < n := by omega
      have hik0 : (0 : Int) ≤ k := by omega
      obtain ⟨x, hx⟩ : ∃ x, zl[k]? = some x := ⟨_, List.getElem?_eq_getElem (by rw [HZL.out]; exact hkn)⟩
      have HXK := Lib.hid hx
      obtain ⟨Ax, cx, hxs⟩ := (HZT.out x (List.mem_of_getElem? hx)).slice
      obtain ⟨b6, o6, rfl, hb6, -⟩ := HRZ.out.place (by rw [tcs_length, HZL.out]; omega)
      have HC := Lib.hid (show ∀ j v, (#[.string (strB (Tm.knd x.1)), .string (strB (Tm.txt x.1)), .slice Ax (Tm.prt x.1).length cx] : Array Value)[j]? = some v → wr.cell? ⟨b6, o6 + k * 3 + j, none⟩ = some v from fun j v hv => by
        have h9 := rd_cell (HRZ.out.below HW.out) (k * 3 + j) v (tcs_at hx j v (by rw [tcl, hxs]; simpa using hv))
        rw [← Nat.add_assoc] at h9; exact h9)
      have HOL := Lib.hid (show (((zl.take k).map fun (x : Tm × Value) => Value.string (strB x.1.txt)).length + 1) * 16 ≤ 140737488355328 by rw [List.length_map, List.length_take]; omega)
      clear hx hxs
      go_wp2_with (first
        | (refine Cv.load_cells rfl 31 _ rfl b6 (o6 + k * 3) rfl #[.string (strB (Tm.knd x.1)), .string (strB (Tm.txt x.1)), .slice Ax (Tm.prt x.1).length cx] _ HC.out Tryd.underlying31 rfl (by kernel_rfl) ?_; skip)
        | (refine Rg.store_fresh rfl 31 _ _ rfl #[.string (strB (Tm.knd x.1)), .string (strB (Tm.txt x.1)), .slice Ax (Tm.prt x.1).length cx] _ 31 rfl rfl (by kernel_rfl) rfl (by simp [Value.oneCell']) ?_; intro Z hZ hbZ; have HZ := Lib.hid hZ; have HOy := Lib.hid (HO.out.below hbZ); clear HO; have HO := HOy; clear HOy; have HWy := Lib.hid (HW.out.trans (Below.mono hbZ HW.out.size)); clear HW; have HW := HWy; clear HWy; clear hZ hbZ)
        | (refine Cv.load_cells rfl 31 _ rfl wr.heap.size 0 rfl #[.string (strB (Tm.knd x.1)), .string (strB (Tm.txt x.1)), .slice Ax (Tm.prt x.1).length cx] _ (fun j v hv => by rw [Nat.zero_add]; exact HZ.out.cell j hv) Tryd.underlying31 rfl (by kernel_rfl) ?_; skip)
        | (go_at_call 25; refine (Text_any _ _ _ _ _ _).mono ?_; rintro e w7 ⟨rfl, hb⟩; skip; have HOy := Lib.hid (HO.out.below hb); clear HO; have HO := HOy; clear HOy; have HWy := Lib.hid (HW.out.trans (Below.mono hb HW.out.size)); clear HW; have HW := HWy; clear HWy; clear hb)
        | (refine app1 rfl _ _ 22 rfl (E := 9) (z := .string ⟨#[]⟩) (by' := 16) rfl rfl rfl (by decide) HO.out rfl rfl rfl HOL.out HW.out.size ?_; rintro v9 w9 h2 h3 h4; skip; have HO9 := Lib.hid h2; have HW9 := Lib.hid (own_grown HW.out HO.out h3); clear h2 h3 h4))
      go_roundw
      case rel =>
        have hj3 : k < zl.length := by rw [HZL.out]; exact hkn
        have REL := Lib.hid (show ∃ k' : Nat, k' ≤ n ∧ Value.int .i64 ((k : Int) + 1) = .int .i64 k' ∧ Owns w9 w6.heap.size 9 v9 ((zl.take k').map fun x => Value.string (strB x.1.txt)) ∧ Below w6.heap.size w6 w9 from ⟨k + 1, hkn, rfl, by rw [List.take_succ_eq_append_getElem hj3, (List.getElem?_eq_some_iff.1 HXK.out).2, List.map_append]; exact HO9.out, HW9.out⟩)
        first
          | exact REL.out
          | ((repeat apply Exists.intro); refine ⟨?_, rfl⟩; exact REL.out)
      case measure => (first | (simp [intOf]; done) | (simp [intOf]; omega))
    · obtain rfl : k = n := by omega
      have hd : decide (k < k) = false := by simp
      have ho := HO.out
      rw [List.take_of_length_le (by rw [HZL.out]; exact Nat.le_refl _), show (zl.map fun (x : Tm × Value) => Value.string (strB x.1.txt)) = ((zl.map (·.1)).map Tm.txt).map encStr by rw [List.map_map, List.map_map]; rfl, HZM.out] at ho
      obtain ⟨A7, c7, hu7, hr7, _⟩ := ho.form
      rw [List.length_map, List.length_map, HN.out] at hu7
      subst hu7
      have HR7 := Lib.hid hr7
      have HBn := Lib.hid (HB.out.trans (Below.mono HW.out HB.out.size))
      have HXn := Lib.hid (HX.out.below HW.out HX.out.lt)
      have HR8n := Lib.hid (HR8.out.below HW.out)
      clear HB HX HR8 ho hr7 HT
      have HB := HBn
      have HX := HXn
      have HR8 := HR8n
      clear HBn HXn HR8n
      have x0 := HX.out.cell 0 (v := .string (strB (Tm.knd t))) rfl
      have x1 := HX.out.cell 1 (v := .string (strB (Tm.txt t))) rfl
      have x2 := HX.out.cell 2 (v := .slice A k c) rfl
      have hlk : (t.prt.map Tm.txt).length = k := by rw [List.length_map, HN.out]
      have HLK := Lib.hid hlk
      clear hlk
      go_wp2_with (first
        | (go_at_call 24; refine (HPB.out _).mono ?_; rintro e w3b ⟨p9, rfl, hft, hb⟩; obtain ⟨A9, c9, rfl⟩ := hft.tp.slice; skip; have HBy := Lib.hid (HB.out.trans (Below.mono hb HB.out.size)); clear HB; have HB := HBy; clear HBy; have HXy := Lib.hid (HX.out.below hb HX.out.lt); clear HX; have HX := HXy; clear HXy; have x0 := HX.out.cell 0 (v := .string (strB (Tm.knd t))) rfl; have x1 := HX.out.cell 1 (v := .string (strB (Tm.txt t))) rfl; have x2 := HX.out.cell 2 (v := .slice A k c) rfl; have HR7y := Lib.hid (HR7.out.below hb); clear HR7; have HR7 := HR7y; clear HR7y; have HR8y := Lib.hid (HR8.out.below hb); clear HR8; have HR8 := HR8y; clear HR8y; clear hft hb)
        | (refine Rg.store_fresh rfl 31 _ _ rfl #[.string (strB (Tm.knd t)), .string (strB (Tm.txt t)), .slice A9 (Tm.prt t).length c9] _ 31 rfl rfl (by kernel_rfl) rfl (by simp [Value.oneCell']) ?_; intro XHY hX hbX; have HY := Lib.hid hX; have HBy := Lib.hid (HB.out.trans (Below.mono hbX HB.out.size)); clear HB; have HB := HBy; clear HBy; have HXy := Lib.hid (HX.out.below hbX HX.out.lt); clear HX; have HX := HXy; clear HXy; have x0 := HX.out.cell 0 (v := .string (strB (Tm.knd t))) rfl; have x1 := HX.out.cell 1 (v := .string (strB (Tm.txt t))) rfl; have x2 := HX.out.cell 2 (v := .slice A k c) rfl; have HR7y := Lib.hid (HR7.out.below hbX); clear HR7; have HR7 := HR7y; clear HR7y; have HR8y := Lib.hid (HR8.out.below hbX); clear HR8; have HR8 := HR8y; clear HR8y; have y0 := HY.out.cell 0 (v := .string (strB (Tm.knd t))) rfl; have y1 := HY.out.cell 1 (v := .string (strB (Tm.txt t))) rfl; have y2 := HY.out.cell 2 (v := .slice A9 (Tm.prt t).length c9) rfl; clear hX hbX)
        | (go_at_call 25; refine (Text_any _ _ _ _ _ _).mono ?_; rintro e w10 ⟨rfl, hb⟩; skip; have HBy := Lib.hid (HB.out.trans (Below.mono hb HB.out.size)); clear HB; have HB := HBy; clear HBy; have HXy := Lib.hid (HX.out.below hb HX.out.lt); clear HX; have HX := HXy; clear HXy; have x0 := HX.out.cell 0 (v := .string (strB (Tm.knd t))) rfl; have x1 := HX.out.cell 1 (v := .string (strB (Tm.txt t))) rfl; have x2 := HX.out.cell 2 (v := .slice A k c) rfl; have HYy := Lib.hid (HY.out.below hb HY.out.lt); clear HY; have HY := HYy; clear HYy; have y0 := HY.out.cell 0 (v := .string (strB (Tm.knd t))) rfl; have y1 := HY.out.cell 1 (v := .string (strB (Tm.txt t))) rfl; have y2 := HY.out.cell 2 (v := .slice A9 (Tm.prt t).length c9) rfl; have HR7y := Lib.hid (HR7.out.below hb); clear HR7; have HR7 := HR7y; clear HR7y; have HR8y := Lib.hid (HR8.out.below hb); clear HR8; have HR8 := HR8y; clear HR8y; clear hb)
        | (go_at_call 26; refine (Kind_any _ _ _ _ _ _).mono ?_; rintro e w11 ⟨rfl, hb⟩; skip; have HBy := Lib.hid (HB.out.trans (Below.mono hb HB.out.size)); clear HB; have HB := HBy; clear HBy; have HXy := Lib.hid (HX.out.below hb HX.out.lt); clear HX; have HX := HXy; clear HXy; have x0 := HX.out.cell 0 (v := .string (strB (Tm.knd t))) rfl; have x1 := HX.out.cell 1 (v := .string (strB (Tm.txt t))) rfl; have x2 := HX.out.cell 2 (v := .slice A k c) rfl; have HYy := Lib.hid (HY.out.below hb HY.out.lt); clear HY; have HY := HYy; clear HYy; have y0 := HY.out.cell 0 (v := .string (strB (Tm.knd t))) rfl; have y1 := HY.out.cell 1 (v := .string (strB (Tm.txt t))) rfl; have y2 := HY.out.cell 2 (v := .slice A9 (Tm.prt t).length c9) rfl; have HR7y := Lib.hid (HR7.out.below hb); clear HR7; have HR7 := HR7y; clear HR7y; have HR8y := Lib.hid (HR8.out.below hb); clear HR8; have HR8 := HR8y; clear HR8y; clear hb)
        | (go_at_call 11; refine (same_any _ _ _ _ _ _ _ (t.prt.map Tm.txt) (t.prt.map Tm.txt) HLK.out HLK.out HR7.out HR8.out (by rw [HLK.out]; omega)).mono ?_; rintro e w12 ⟨rfl, hb⟩; rw [decide_eq_true rfl]; skip; have HBy := Lib.hid (HB.out.trans (Below.mono hb HB.out.size)); clear HB; have HB := HBy; clear HBy; have HXy := Lib.hid (HX.out.below hb HX.out.lt); clear HX; have HX := HXy; clear HXy; have x0 := HX.out.cell 0 (v := .string (strB (Tm.knd t))) rfl; have x1 := HX.out.cell 1 (v := .string (strB (Tm.txt t))) rfl; have x2 := HX.out.cell 2 (v := .slice A k c) rfl; have HYy := Lib.hid (HY.out.below hb HY.out.lt); clear HY; have HY := HYy; clear HYy; have y0 := HY.out.cell 0 (v := .string (strB (Tm.knd t))) rfl; have y1 := HY.out.cell 1 (v := .string (strB (Tm.txt t))) rfl; have y2 := HY.out.cell 2 (v := .slice A9 (Tm.prt t).length c9) rfl; clear hb)
        | (go_at_call 28; refine (Same_any _ _ _ _ _ _ _ _ _ _ _).mono ?_; rintro e w13 ⟨rfl, hb⟩; rw [beq_self_eq_true]; skip; have HBy := Lib.hid (HB.out.trans (Below.mono hb HB.out.size)); clear HB; have HB := HBy; clear HBy; clear hb))
      go_ret
      exact ⟨by simp, HB.out⟩
theorem law_TermReads (w : World) (S : ByteArray) (a : Nat → Addr) (hE : Ei.ErrsAll w a) : Calls Tryd.prog 7 #[.string S] w fun e w' => e = .returned (.bool true) ∧ Below w.heap.size w w' := by
  have hs : (S.extract 0 300).data.toList.length ≤ 300 := by rw [Array.length_toList]; show (S.extract 0 300).size ≤ 300; rw [ByteArray.size_extract]; omega
  have hct : ∀ W : World, Calls Tryd.prog 14 #[.string S, .int .i64 300] W fun e w' => e = .returned (.string (strB (S.extract 0 300).data.toList)) ∧ W = w' := fun W => Cut31 W S 300 (by decide)
  cases hp : parse (S.extract 0 300).data.toList with
  | none => exact Reads_none w S _ hs hp hct a hE
  | some t => exact Reads_some w S _ t hs hp hct a hE
end Go.Proofs.YtfcemnebhapidaaDoor.Te
