/- Know.Learn. -/
import Derived.Test.YtfcemnebhapidaaDoorTmLe
set_option linter.unusedVariables false
set_option linter.unusedSimpArgs false
namespace Go.Proofs.YtfcemnebhapidaaDoor.Te
open Go.RowKit Go.Proofs.YtfcemnebhapidaaDoor.Ow Go.Proofs.YtfcemnebhapidaaDoor.Mp Go.Maps
/-- a round over what is known: K0 at its start, K now, b: whether any was opened -/
structure Rn (K0 K : List Tm) (b : Bool) (j : Nat) : Prop where
  sub : ∀ t ∈ K0, t ∈ K
  len : b = true → K0.length < K.length
  nof : b = false → K = K0 ∧ ∀ (i : Nat) (x : List UInt8) (u : Tm), i < j → (prtsOf K0)[i]? = some x → u ∈ K0 → u.txt = x → ∀ a c, u = .two 6 a c → syn K0 a = true → c ∈ K0
theorem Rn.start (K : List Tm) : Rn K K false 0 := ⟨fun _ h => h, (fun h => by cases h), fun _ => ⟨rfl, fun i _ _ h => absurd h (by omega)⟩⟩
theorem Rn.skip {K0 K : List Tm} {b : Bool} {j : Nat} (h : Rn K0 K b j) (hw : ∀ t ∈ K0, t.wf) {u : Tm} (hu : u ∈ K0) (hx : (prtsOf K0)[j]? = some u.txt) (hno : ∀ a c, u = .two 6 a c → syn K a = true → c ∈ K) : Rn K0 K b (j + 1) := by
  refine ⟨h.sub, h.len, fun hb => ?_⟩
  obtain ⟨rfl, hn⟩ := h.nof hb
  refine ⟨rfl, fun i x v hi hxi hv hvx => ?_⟩
  by_cases hij : i < j
  · exact hn i x v hij hxi hv hvx
  · obtain rfl : i = j := by omega
    rw [hx] at hxi
    obtain rfl : v = u := txt_inj (hw v hv) (hw u hu) (hvx.trans (Option.some.inj hxi).symm)
    exact hno
theorem Rn.fire {K0 K K' : List Tm} {b : Bool} {j : Nat} (h : Rn K0 K b j) (hs : ∀ t ∈ K, t ∈ K') (hl : K.length < K'.length) : Rn K0 K' true (j + 1) := by
  refine ⟨fun t ht => hs t (h.sub t ht), fun _ => ?_, (fun h => by cases h)⟩
  cases b with
  | true => exact Nat.lt_trans (h.len rfl) hl
  | false => rw [(h.nof rfl).1] at hl; exact hl
theorem Rn.fin {K0 K : List Tm} {j : Nat} (h : Rn K0 K false j) (hj : (prtsOf K0).length ≤ j) : Opn K := by
  obtain ⟨rfl, hn⟩ := h.nof rfl
  intro a c hm hs
  obtain ⟨i, hi⟩ := List.getElem?_of_mem (prts_mem.2 ⟨_, hm, rfl⟩)
  exact hn i _ _ (by have := (List.getElem?_eq_some_iff.1 hi).1; omega) hi hm rfl a c rfl hs
theorem knd_ne6 {u : Tm} (h : u.wf) (hn : ∀ a c, u ≠ .two 6 a c) : ((strB u.knd).toList == [115, 101, 97, 108]) = false := by
  rw [strB_toList, beq_eq_false_iff_ne]
  have hw : ∀ k, k < 7 → k ≠ 6 → word k ≠ [115, 101, 97, 108] := fun k hk h6 e => by
    have := congrArg numW e
    rw [numW_word k hk, show numW [115, 101, 97, 108] = 6 by decide] at this
    exact h6 this
  cases u with
  | atom s => intro e; exact absurd (show ([97, 116, 111, 109] : List UInt8) = [115, 101, 97, 108] from e) (by decide)
  | one k a => exact hw k (by have := h.1; omega) (by have := h.1; omega)
  | two k a b => exact hw k h.2.1 (fun e => hn a b (by rw [e]))
theorem prts_len (K : List Tm) : (prtsOf K).length = K.length := by unfold prtsOf; rw [List.length_mergeSort, List.length_map]
theorem step_int {j : Nat} (h : wrap64 ((j : Int) + 1) = (j : Int) + 1) : Value.int .i64 (wrap64 ((j : Int) + 1)) = .int .i64 ((j + 1 : Nat) : Int) := by rw [h]; rfl
theorem step_less {j m : Nat} (h : j < m) (hw : wrap64 ((j : Int) + 1) = (j : Int) + 1) : m - (intOf (.int .i64 (wrap64 ((j : Int) + 1)))).toNat < m - (intOf (.int .i64 (j : Int))).toNat := by
  rw [hw]
  show m - ((j : Int) + 1).toNat < m - (j : Int).toNat
  omega
theorem upd_wide {w V : World} {a b : Nat} (h : Sp.Upd w V [a]) : Sp.Upd w V [a, b] := ⟨h.os, h.tape, h.output, h.size, fun k hk hs => h.block k hk (fun e => hs (by simp at e; simp [e]))⟩
theorem IsKn.num {X V : World} {kb mb n m N : Nat} {K : List Tm} (h : IsKn X kb mb n N K) (hV : Rg.Blk V kb 65 #[.int .i64 (m : Int), .map (some mb)]) (hg : X.grownBy V (some kb)) : IsKn V kb mb m N K := by
  have hne := h.ne
  obtain ⟨h1, h2, h3, f, h4, h5⟩ := h
  refine ⟨hV, h2, h3, f, h4.keep (hg.block mb h4.lt (fun e => hne (Option.some.inj e).symm)), fun x => ?_⟩
  rcases h5 x with ⟨u, q, a1, a2, a3, a4⟩ | h5
  · exact .inl ⟨u, q, a1, a2, a3, a4.small h1 (by simp) hg⟩
  · exact .inr h5
theorem IsKn.tight {w : World} {kb mb n N : Nat} {K : List Tm} (h : IsKn w kb mb n N K) : IsKn w kb mb n K.length K := by
  obtain ⟨h1, h2, h3, f, h4, h5⟩ := h
  exact ⟨h1, h2, h3, f, h4.tight, h5⟩
theorem look_any {w : World} {kb mb n N : Nat} {K : List Tm} (h : IsKn w kb mb n N K) {u : Tm} (hu : u ∈ K) (hl : u.txt.length ≤ 1000000) : ∃ p, TP w u p ∧ ∀ W, Below w.heap.size w W → (Instr.lookup 63 (.map (some mb)) (.string (strB u.txt)) false).run Tryd.prog W = .ok (.agg (tv u p)) W := by
  obtain ⟨_, _, hw, f, hf, hfx⟩ := h
  rcases hfx u.txt with ⟨v, p, h1, h2, h3, h4⟩ | ⟨h1, h2⟩
  · obtain rfl : v = u := txt_inj (hw v h1) (hw u hu) h2
    refine ⟨p, h4, fun W hW => ?_⟩
    have := (hf.below hW hf.lt).look keyed_str Tryd.underlying63 (zeroT W) (key_str Tryd.underlying9 (strB v.txt) (by rw [strB_size]; unfold maxLen; omega))
    rw [show f (.string (strB v.txt).data.toList) = some (.agg (tv v p)) from h3] at this
    exact this
  · exact absurd rfl (h1 u hu)
/-- one number of a small block is stored -/
theorem store_int {P : Program} {ops : Array Oper} {rest : List Oper} {o : Oper} {a : Act} {w : World} {Q : Exit → Act → World → Prop} (hgd : o.guard = none) (ty : TypeId) (x y : Operand) (ho : o.op = .store ty x y)
    {b T : Nat} {z v : Int} {v0 c : Value} (hx : a.eval x = .pointer (some ⟨b, 0, none⟩)) (hy : a.eval y = .int .i64 z) (hz : z = v) (hu : P.underlying ty = some (.int .i64)) (hi : (P.info? ty).map (·.size) = some 1) (hR : Rg.Blk w b T #[v0, c])
    (h : ∀ w', Rg.Blk w' b T #[.int .i64 v, c] → w.grownBy w' (some b) → wpList P ops Q rest (a.put o.dst undef) w') : wpList P ops Q (o :: rest) a w :=
  wpList_plain hgd fun _ hK => by
    subst hz
    have hx' := hx
    have hy' := hy
    have hc := hR.cell 0 rfl
    have hf := hR.frozen 0
    have hS : Rg.Blk (w.setCell ⟨b, 0, none⟩ (.int .i64 z)) b T #[.int .i64 z, c] := by
      unfold Rg.Blk at *
      rw [heap_setCell_same w b 0 _ _ _ hR]
      rfl
    simp [go_sem] at hx' hy'
    unfold Oper.wp execOp
    cases hq : P.info? ty with
    | none => simp [hq] at hi
    | some i =>
    have hs : i.size = 1 := by simpa [hq] using hi
    simp [ho, hx', hy', go_sem, hc, hf, hu, sizeOf, typeInfo, hq, hs]
    have := hK _ _ (h _ hS (Cl.grown_setCell w b 0 _))
    simpa [go_sem] using this
set_option maxRecDepth 20000 in
set_option maxHeartbeats 4000000 in
theorem Learn_any (w : World) (kb mb n N : Nat) (L K : List Tm) (t : Tm) (p : Value) (h : IsKn w kb mb n N K) (hk : Kn L K) (ht : t.wf) (hp : TP w t p) (hn : n < 512) (hU : (univ (L ++ [t])).length ≤ 500000) (hBl : ∀ u ∈ univ (L ++ [t]), u.txt.length ≤ 5000) :
    Calls Tryd.prog 16 #[.pointer (some ⟨kb, 0, none⟩), .agg (tv t p)] w fun e w' => e = .returned .nilIface ∧ ∃ K', IsKn w' kb mb (n + 1) K'.length K' ∧ Kn (L ++ [t]) K' ∧ Sp.Upd w w' [kb, mb] := by
  obtain ⟨A, c, rfl⟩ := hp.slice
  have HB := Lib.hid h.1
  have HTW := Lib.hid ht
  have HKN0 := Lib.hid hk
  have hte : ((strB (Tm.txt t)).toList == []) = false := by rw [strB_toList, beq_eq_false_iff_ne]; exact txt_ne ht
  have hd1 : decide (512 ≤ n) = false := by simp; omega
  have hd2 : decide ((512 : Int) ≤ n) = false := by simp; omega
  have HTP := Lib.hid hp
  have HIK := Lib.hid h
  have HNN := Lib.hid hn
  have HUL := Lib.hid hU
  have HBL := Lib.hid hBl
  clear h ht hp hk hn hU hBl
  go_enter Tryd.func16, Tryd.ntmps16
  go_upto_region 1 with (refine Rg.box_fresh rfl 31 _ rfl #[.string (strB t.knd), .string (strB t.txt), .slice A t.prt.length c] rfl ?_; intro X hX hbX hnX; have HX := Lib.hid hX; have HBX := Lib.hid hbX; clear hX hbX hnX)
  have x1 := HX.out.cell 1 (v := .string (strB t.txt)) rfl
  have k0 := (HB.out.below HBX.out HB.out.lt).cell 0 (v := .int .i64 (n : Int)) rfl
  have HKB := Lib.hid (HB.out.below HBX.out HB.out.lt)
  go_upto_region 6 with (first
    | (refine store_int rfl 3 _ _ rfl (b := kb) (v := ((n + 1 : Nat) : Int)) rfl rfl ?hz Tryd.underlying3 (by kernel_rfl) HKB.out ?_
       rotate_left
       intro V hV hgV
       have HV := Lib.hid hV; have HGV := Lib.hid hgV; clear hV hgV))
  case hz => have := HNN.out; unfold wrap64; omega
  have HXM := Lib.hid (show kb ≠ w.heap.size from Nat.ne_of_lt HB.out.lt)
  have HXV := Lib.hid (tblk_kept HX.out HGV.out (fun e => HXM.out e.symm))
  have HIV := Lib.hid (((HIK.out.below HBX.out).num HV.out HGV.out).tight)
  have HTV := Lib.hid ((HTP.out.below HBX.out).small HKB.out (by simp) HGV.out)
  have HST := Lib.hid (HKN0.out.start HTW.out)
  have HUV := Lib.hid (show Sp.Upd w V [kb] from Sp.Upd.trans (s := [kb]) ⟨HBX.out.os, HBX.out.tape, HBX.out.output, HBX.out.size, fun k hk _ => HBX.out.block k hk⟩ (Sp.Upd.of_grown1 HGV.out) (fun x hx => .inl hx))
  have HTK := Lib.hid (take_any t V kb mb (n + 1) K.length K (.slice A t.prt.length c) HIV.out HTW.out HTV.out (by have := HBL.out t (HST.out.sub t (tk_self t K)); omega) (by
    have h1 := HKN0.out
    have h2 := nodup_len h1.nd (U := univ (L ++ [t])) (fun x hx => by rw [univ_snoc]; exact List.mem_append_left _ (h1.sub_univ x hx))
    have h3 := subs_len HTW.out
    have h4 := HBL.out t (HST.out.sub t (tk_self t K))
    have := HUL.out
    omega))
  clear hte hd1 hd2 x1 k0 HX HKB HB HIK
  go_wp2_with (first
    | (refine Cv.load_cells rfl 31 _ rfl w.heap.size 0 rfl #[.string (strB t.knd), .string (strB t.txt), .slice A t.prt.length c] _ (fun j v hv => by rw [Nat.zero_add]; exact HXV.out.cell j hv) Tryd.underlying31 rfl (by kernel_rfl) ?_; skip)
    | (go_at_call 36; refine HTK.out.mono ?_; rintro e W6 ⟨⟨v6, rfl⟩, hk6, hg6⟩; skip; have HK6 := Lib.hid hk6.tight; have HG6 := Lib.hid hg6; clear hk6 hg6))
  clear HTK HXV HIV HTV HKN0
  generalize hLL : L ++ [t] = LL at *
  have HLL := Lib.hid hLL.symm
  generalize hUU : (univ LL).length = UN at *
  have HUN := Lib.hid hUU
  clear hLL hUU
  go_loopg [5] (UN + 1) (fun k b wr => ∃ (K1 : List Tm) (bb : Bool), b = .bool bb ∧ (bb = true → UN - K1.length < k) ∧ St LL (univ LL) K1 ∧ IsKn wr kb mb (n + 1) K1.length K1 ∧ Gb V mb wr ∧ (bb = false → Opn K1))
  case atStart => exact ⟨_, true, rfl, fun _ => by omega, HST.out, HK6.out, HG6.out, fun h => by cases h⟩
  case round =>
    obtain ⟨K1, bb, rfl, hk, hst, hik, hg, ho⟩ := hrel
    have HMS := Lib.hid hk
    have HS1 := Lib.hid hst
    have HK1 := Lib.hid hik
    have HG1 := Lib.hid hg
    have HO1 := Lib.hid ho
    clear hk hst hik hg ho
    cases bb with
    | false =>
      go_wp2
      go_ret
      exact ⟨rfl, K1, HK1.out, HLL.out ▸ HS1.out.done (by have := HO1.out; simpa using this), Sp.Upd.trans (s := [kb, mb]) (upd_wide HUV.out) (Sp.Upd.of_grown1 HG1.out) (fun x hx => .inl (by simp at hx; simp [hx]))⟩
    | true =>
      have HKL := Lib.hid (show K1.length ≤ UN from HUN.out ▸ HS1.out.len)
      have HPT := Lib.hid (KParts_any wr kb mb (n + 1) K1.length K1 HK1.out (by have := HKL.out; have := HUL.out; omega))
      go_wp2_with (go_at_call 12; refine HPT.out.mono ?_; rintro e W2 ⟨v2, rfl, ho2, hb2⟩; skip; have HK2 := Lib.hid (HK1.out.below hb2); have HG2 := Lib.hid (HG1.out.lat hb2); obtain ⟨A2, c2, rfl, hr2, hc2⟩ := ho2.form; rw [List.length_map, prts_len]; have HR2 := Lib.hid hr2; clear ho2 hb2 hr2 hc2)
      have HMP := Lib.hid HK2.out.isMap
      have HPL := Lib.hid (prts_len K1)
      generalize hm : K1.length = m at *
      have HML := Lib.hid hm
      clear hm
      go_loopw [35, 5] (fun i b wi => ∃ (j : Nat) (K2 : List Tm) (b2 : Bool), j ≤ m ∧ i = .int .i64 j ∧ b = .bool b2 ∧ Rn K1 K2 b2 j ∧ St LL (univ LL) K2 ∧ IsKn wi kb mb (n + 1) K2.length K2 ∧ Gb W2 mb wi) (fun i _ _ => m - (intOf i).toNat)
      case atStart => exact ⟨0, K1, false, Nat.zero_le _, rfl, rfl, Rn.start K1, HS1.out, by have := HK2.out; rw [HML.out]; exact this, Gb.refl _ _⟩
      case round =>
        obtain ⟨j, K2, b2, hj, rfl, rfl, hrn, hst, hik, hg⟩ := hrel
        have HRN := Lib.hid hrn
        have HSI := Lib.hid hst
        have HKI := Lib.hid hik
        have HGI := Lib.hid hg
        have HRW := Lib.hid (rd_maps HR2.out hg HMP.out)
        clear hrn hst hik hg
        by_cases h5 : j < m
        · have hd5 : decide (j < m) = true := by simp; exact h5
          have hi5 : (j : Int) < m := by omega
          have hi6 : (0 : Int) ≤ j := by omega
          have HW9 := Lib.hid (show wrap64 ((j : Int) + 1) = (j : Int) + 1 from by have h7 := HKL.out; have h8 := HUL.out; unfold wrap64; omega)
          obtain ⟨x, hx⟩ : ∃ x, (prtsOf K1)[j]? = some x := ⟨_, List.getElem?_eq_getElem (by rw [HPL.out]; exact h5)⟩
          obtain ⟨u, hu, rfl⟩ := prts_mem.1 (List.mem_of_getElem? hx)
          have HXJ := Lib.hid hx
          have HUJ := Lib.hid hu
          obtain ⟨b9, o9, rfl, hl2, hc2⟩ := HRW.out j (.string (strB u.txt)) (by rw [List.getElem?_map, hx]; rfl)
          have HUW := Lib.hid (HS1.out.wf u hu)
          have HU2 := Lib.hid (HRN.out.sub u hu)
          have HUB := Lib.hid (HBL.out u (HS1.out.sub u hu))
          obtain ⟨q, hq, hlk⟩ := look_any HKI.out HU2.out (by have := HUB.out; omega)
          have HQ := Lib.hid hq
          have HLK := Lib.hid hlk
          have HBK := Lib.hid HKI.out.1
          clear hx hu hq hlk
          have k1 := HBK.out.cell 1 (v := .map (some mb)) rfl
          have hl9 := HLK.out wr (Below.refl _ _)
          by_cases h6 : ∃ a d, u = .two 6 a d
          · obtain ⟨a, d, rfl⟩ := h6
            obtain ⟨A0, c0, pa, pd, rfl, h1, h2, hR, hpa, hpd⟩ := HQ.out
            obtain ⟨b0, o0, rfl, hbl, _⟩ := hR.place (by rw [tcs_length]; simp)
            obtain ⟨Aa, ca, rfl⟩ := hpa.slice
            obtain ⟨Ad, cd, rfl⟩ := hpd.slice
            have HCa := Lib.hid (show ∀ W, Below wr.heap.size wr W → ∀ j v, (#[.string (strB (Tm.knd a)), .string (strB (Tm.txt a)), .slice Aa (Tm.prt a).length ca] : Array Value)[j]? = some v → W.cell? ⟨b0, o0 + j, none⟩ = some v from fun W hW j v hv => by
              have h9 := rd_cell (hR.below hW) (0 + j) v (by rw [tcs_two]; rw [Nat.zero_add, List.getElem?_append_left (by have := (Array.getElem?_eq_some_iff.1 hv).1; simpa [tcl] using this)]; simpa [tcl] using hv)
              rw [Nat.zero_add] at h9; exact h9)
            have HCd := Lib.hid (show ∀ W, Below wr.heap.size wr W → ∀ j v, (#[.string (strB (Tm.knd d)), .string (strB (Tm.txt d)), .slice Ad (Tm.prt d).length cd] : Array Value)[j]? = some v → W.cell? ⟨b0, o0 + 3 + j, none⟩ = some v from fun W hW j v hv => by
              have h9 := rd_cell (hR.below hW) (3 + j) v (by rw [tcs_two]; rw [List.getElem?_append_right (by simp [tcl]), show 3 + j - (tcl (a, Value.slice Aa a.prt.length ca)).length = j by simp [tcl]]; simpa [tcl] using hv)
              rw [← Nat.add_assoc] at h9; exact h9)
            have HPA := Lib.hid hpa
            have HPD := Lib.hid hpd
            clear hR hpa hpd
            have hs1 : ((strB (Tm.knd (.two 6 a d))).toList == [115, 101, 97, 108]) = true := by rw [strB_toList]; rfl
            have HAU := Lib.hid ((univ_hold LL _ (HS1.out.sub _ HUJ.out)).2 _ _ _ rfl)
            have HHS := Lib.hid (fun W (hW : Below wr.heap.size wr W) => has_any W kb mb (n + 1) K2.length K2 (HKI.out.below hW) d HUW.out.2.2.2.1 (by have := HBL.out d HAU.out.2; omega) (.slice Ad (Tm.prt d).length cd) ⟨_, _, _, rfl⟩)
            have HDR := Lib.hid (fun W (hW : Below wr.heap.size wr W) => Derives_any a W kb mb (n + 1) K2.length K2 (.slice Aa (Tm.prt a).length ca) (HKI.out.below hW) HUW.out.2.2.1 (HPA.out.below hW) (HBL.out a HAU.out.1))
            have HTD := Lib.hid (fun W (hW : Below wr.heap.size wr W) => take_any d W kb mb (n + 1) K2.length K2 (.slice Ad (Tm.prt d).length cd) (HKI.out.below hW) HUW.out.2.2.2.1 (HPD.out.below hW) (by have := HBL.out d HAU.out.2; omega) (by
              have h3 := subs_len HUW.out.2.2.2.1
              have h4 := HBL.out d HAU.out.2
              have h5 := HSI.out.len
              have h6 := HUN.out
              have := HUL.out
              omega))
            obtain ⟨sd, hsd⟩ : ∃ x, decide (d ∈ K2) = x := ⟨_, rfl⟩
            obtain ⟨sa, hsa⟩ : ∃ x, syn K2 a = x := ⟨_, rfl⟩
            rw [hsd] at HHS
            rw [hsa] at HDR
            have HSD := Lib.hid hsd
            have HSA := Lib.hid hsa
            clear hsd hsa
            go_upto_region 14 with (refine Rg.store_fresh rfl 31 _ _ rfl #[.string (strB (Tm.knd (.two 6 a d))), .string (strB (Tm.txt (.two 6 a d))), .slice (some ⟨b0, o0, none⟩) 2 c0] _ 31 rfl rfl (by kernel_rfl) rfl (by simp [Value.oneCell']) ?_; intro Y hY hbY; have HY := Lib.hid hY; have HBY := Lib.hid hbY; have HBW := Lib.hid hbY; clear hY hbY)
            clear k1 hl9 hc2
            have x0 := HY.out.cell 0 (v := .string (strB (Tm.knd (.two 6 a d)))) rfl
            have x2 := HY.out.cell 2 (v := .slice (some ⟨b0, o0, none⟩) 2 c0) rfl
            have d0c := (show World.cell? _ ⟨b0, o0 + 3, none⟩ = some (.string (strB (Tm.knd d))) from HCd.out _ HBW.out 0 _ rfl)
            have d1c := (show World.cell? _ ⟨b0, o0 + 3 + 1, none⟩ = some (.string (strB (Tm.txt d))) from HCd.out _ HBW.out 1 _ rfl)
            have d2c := (show World.cell? _ ⟨b0, o0 + 3 + 2, none⟩ = some (.slice Ad (Tm.prt d).length cd) from HCd.out _ HBW.out 2 _ rfl)
            have a0c := (show World.cell? _ ⟨b0, o0, none⟩ = some (.string (strB (Tm.knd a))) from HCa.out _ HBW.out 0 _ rfl)
            have a1c := (show World.cell? _ ⟨b0, o0 + 1, none⟩ = some (.string (strB (Tm.txt a))) from HCa.out _ HBW.out 1 _ rfl)
            have a2c := (show World.cell? _ ⟨b0, o0 + 2, none⟩ = some (.slice Aa (Tm.prt a).length ca) from HCa.out _ HBW.out 2 _ rfl)
            cases sd with
            | true =>
              go_wp2_with (first | (refine Cv.load_cells rfl 31 _ rfl b0 (o0 + 3) rfl #[.string (strB (Tm.knd d)), .string (strB (Tm.txt d)), .slice Ad (Tm.prt d).length cd] _ (HCd.out _ HBW.out) Tryd.underlying31 rfl (by kernel_rfl) ?_; skip) | (go_at_call 34; refine (HHS.out _ HBW.out).mono ?_; rintro e W5 ⟨rfl, hb5⟩; skip; have HBWx := Lib.hid (HBW.out.trans (Below.mono hb5 HBW.out.size)); clear HBW; have HBW := HBWx; clear HBWx; have HYx := Lib.hid (HY.out.below hb5 HY.out.lt); clear HY; have HY := HYx; clear HYx; have x0 := HY.out.cell 0 (v := .string (strB (Tm.knd (.two 6 a d)))) rfl; have x2 := HY.out.cell 2 (v := .slice (some ⟨b0, o0, none⟩) 2 c0) rfl; have d0c := (show World.cell? _ ⟨b0, o0 + 3, none⟩ = some (.string (strB (Tm.knd d))) from HCd.out _ HBW.out 0 _ rfl); have d1c := (show World.cell? _ ⟨b0, o0 + 3 + 1, none⟩ = some (.string (strB (Tm.txt d))) from HCd.out _ HBW.out 1 _ rfl); have d2c := (show World.cell? _ ⟨b0, o0 + 3 + 2, none⟩ = some (.slice Ad (Tm.prt d).length cd) from HCd.out _ HBW.out 2 _ rfl); have a0c := (show World.cell? _ ⟨b0, o0, none⟩ = some (.string (strB (Tm.knd a))) from HCa.out _ HBW.out 0 _ rfl); have a1c := (show World.cell? _ ⟨b0, o0 + 1, none⟩ = some (.string (strB (Tm.txt a))) from HCa.out _ HBW.out 1 _ rfl); have a2c := (show World.cell? _ ⟨b0, o0 + 2, none⟩ = some (.slice Aa (Tm.prt a).length ca) from HCa.out _ HBW.out 2 _ rfl); clear hb5) | (refine Cv.load_cells rfl 31 _ rfl b0 o0 rfl #[.string (strB (Tm.knd a)), .string (strB (Tm.txt a)), .slice Aa (Tm.prt a).length ca] _ (HCa.out _ HBW.out) Tryd.underlying31 rfl (by kernel_rfl) ?_; skip) | (go_at_call 15; refine (HDR.out _ HBW.out).mono ?_; rintro e W7 ⟨rfl, hb7⟩; skip; have HBWx := Lib.hid (HBW.out.trans (Below.mono hb7 HBW.out.size)); clear HBW; have HBW := HBWx; clear HBWx; have HYx := Lib.hid (HY.out.below hb7 HY.out.lt); clear HY; have HY := HYx; clear HYx; have x0 := HY.out.cell 0 (v := .string (strB (Tm.knd (.two 6 a d)))) rfl; have x2 := HY.out.cell 2 (v := .slice (some ⟨b0, o0, none⟩) 2 c0) rfl; have d0c := (show World.cell? _ ⟨b0, o0 + 3, none⟩ = some (.string (strB (Tm.knd d))) from HCd.out _ HBW.out 0 _ rfl); have d1c := (show World.cell? _ ⟨b0, o0 + 3 + 1, none⟩ = some (.string (strB (Tm.txt d))) from HCd.out _ HBW.out 1 _ rfl); have d2c := (show World.cell? _ ⟨b0, o0 + 3 + 2, none⟩ = some (.slice Ad (Tm.prt d).length cd) from HCd.out _ HBW.out 2 _ rfl); have a0c := (show World.cell? _ ⟨b0, o0, none⟩ = some (.string (strB (Tm.knd a))) from HCa.out _ HBW.out 0 _ rfl); have a1c := (show World.cell? _ ⟨b0, o0 + 1, none⟩ = some (.string (strB (Tm.txt a))) from HCa.out _ HBW.out 1 _ rfl); have a2c := (show World.cell? _ ⟨b0, o0 + 2, none⟩ = some (.slice Aa (Tm.prt a).length ca) from HCa.out _ HBW.out 2 _ rfl); clear hb7) | (go_at_call 36; refine (HTD.out _ HBW.out).mono ?_; rintro e W8 ⟨⟨v8, rfl⟩, hk8, hg8⟩; skip; have HK8 := Lib.hid hk8.tight; have HG8 := Lib.hid hg8; clear hk8 hg8))
              go_roundw
              case rel =>
                have REL := Lib.hid (show ∃ (j' : Nat) (K2' : List Tm) (b2' : Bool), j' ≤ m ∧ Value.int .i64 (wrap64 ((j : Int) + 1)) = .int .i64 j' ∧ Value.bool b2 = .bool b2' ∧ Rn K1 K2' b2' j' ∧ St LL (univ LL) K2' ∧ IsKn W5 kb mb (n + 1) K2'.length K2' ∧ Gb W2 mb W5 from ⟨j + 1, K2, b2, by omega, step_int HW9.out, rfl, HRN.out.skip HS1.out.wf HUJ.out HXJ.out (fun a9 d9 e _ => by injection e with _ e1 e2; subst e1 e2; exact of_decide_eq_true HSD.out), HSI.out, HKI.out.below HBW.out, HGI.out.lat HBW.out⟩)
                first
                  | exact REL.out
                  | ((repeat apply Exists.intro); refine ⟨?_, rfl⟩; exact REL.out)
              case measure => exact step_less h5 HW9.out
            | false =>
              cases sa with
              | false =>
                go_wp2_with (first | (refine Cv.load_cells rfl 31 _ rfl b0 (o0 + 3) rfl #[.string (strB (Tm.knd d)), .string (strB (Tm.txt d)), .slice Ad (Tm.prt d).length cd] _ (HCd.out _ HBW.out) Tryd.underlying31 rfl (by kernel_rfl) ?_; skip) | (go_at_call 34; refine (HHS.out _ HBW.out).mono ?_; rintro e W5 ⟨rfl, hb5⟩; skip; have HBWx := Lib.hid (HBW.out.trans (Below.mono hb5 HBW.out.size)); clear HBW; have HBW := HBWx; clear HBWx; have HYx := Lib.hid (HY.out.below hb5 HY.out.lt); clear HY; have HY := HYx; clear HYx; have x0 := HY.out.cell 0 (v := .string (strB (Tm.knd (.two 6 a d)))) rfl; have x2 := HY.out.cell 2 (v := .slice (some ⟨b0, o0, none⟩) 2 c0) rfl; have d0c := (show World.cell? _ ⟨b0, o0 + 3, none⟩ = some (.string (strB (Tm.knd d))) from HCd.out _ HBW.out 0 _ rfl); have d1c := (show World.cell? _ ⟨b0, o0 + 3 + 1, none⟩ = some (.string (strB (Tm.txt d))) from HCd.out _ HBW.out 1 _ rfl); have d2c := (show World.cell? _ ⟨b0, o0 + 3 + 2, none⟩ = some (.slice Ad (Tm.prt d).length cd) from HCd.out _ HBW.out 2 _ rfl); have a0c := (show World.cell? _ ⟨b0, o0, none⟩ = some (.string (strB (Tm.knd a))) from HCa.out _ HBW.out 0 _ rfl); have a1c := (show World.cell? _ ⟨b0, o0 + 1, none⟩ = some (.string (strB (Tm.txt a))) from HCa.out _ HBW.out 1 _ rfl); have a2c := (show World.cell? _ ⟨b0, o0 + 2, none⟩ = some (.slice Aa (Tm.prt a).length ca) from HCa.out _ HBW.out 2 _ rfl); clear hb5) | (refine Cv.load_cells rfl 31 _ rfl b0 o0 rfl #[.string (strB (Tm.knd a)), .string (strB (Tm.txt a)), .slice Aa (Tm.prt a).length ca] _ (HCa.out _ HBW.out) Tryd.underlying31 rfl (by kernel_rfl) ?_; skip) | (go_at_call 15; refine (HDR.out _ HBW.out).mono ?_; rintro e W7 ⟨rfl, hb7⟩; skip; have HBWx := Lib.hid (HBW.out.trans (Below.mono hb7 HBW.out.size)); clear HBW; have HBW := HBWx; clear HBWx; have HYx := Lib.hid (HY.out.below hb7 HY.out.lt); clear HY; have HY := HYx; clear HYx; have x0 := HY.out.cell 0 (v := .string (strB (Tm.knd (.two 6 a d)))) rfl; have x2 := HY.out.cell 2 (v := .slice (some ⟨b0, o0, none⟩) 2 c0) rfl; have d0c := (show World.cell? _ ⟨b0, o0 + 3, none⟩ = some (.string (strB (Tm.knd d))) from HCd.out _ HBW.out 0 _ rfl); have d1c := (show World.cell? _ ⟨b0, o0 + 3 + 1, none⟩ = some (.string (strB (Tm.txt d))) from HCd.out _ HBW.out 1 _ rfl); have d2c := (show World.cell? _ ⟨b0, o0 + 3 + 2, none⟩ = some (.slice Ad (Tm.prt d).length cd) from HCd.out _ HBW.out 2 _ rfl); have a0c := (show World.cell? _ ⟨b0, o0, none⟩ = some (.string (strB (Tm.knd a))) from HCa.out _ HBW.out 0 _ rfl); have a1c := (show World.cell? _ ⟨b0, o0 + 1, none⟩ = some (.string (strB (Tm.txt a))) from HCa.out _ HBW.out 1 _ rfl); have a2c := (show World.cell? _ ⟨b0, o0 + 2, none⟩ = some (.slice Aa (Tm.prt a).length ca) from HCa.out _ HBW.out 2 _ rfl); clear hb7) | (go_at_call 36; refine (HTD.out _ HBW.out).mono ?_; rintro e W8 ⟨⟨v8, rfl⟩, hk8, hg8⟩; skip; have HK8 := Lib.hid hk8.tight; have HG8 := Lib.hid hg8; clear hk8 hg8))
                go_roundw
                case rel =>
                  have REL := Lib.hid (show ∃ (j' : Nat) (K2' : List Tm) (b2' : Bool), j' ≤ m ∧ Value.int .i64 (wrap64 ((j : Int) + 1)) = .int .i64 j' ∧ Value.bool b2 = .bool b2' ∧ Rn K1 K2' b2' j' ∧ St LL (univ LL) K2' ∧ IsKn W7 kb mb (n + 1) K2'.length K2' ∧ Gb W2 mb W7 from ⟨j + 1, K2, b2, by omega, step_int HW9.out, rfl, HRN.out.skip HS1.out.wf HUJ.out HXJ.out (fun a9 d9 e h => by injection e with _ e1 e2; subst e1 e2; rw [HSA.out] at h; cases h), HSI.out, HKI.out.below HBW.out, HGI.out.lat HBW.out⟩)
                  first
                    | exact REL.out
                    | ((repeat apply Exists.intro); refine ⟨?_, rfl⟩; exact REL.out)
                case measure => exact step_less h5 HW9.out
              | true =>
                go_wp2_with (first | (refine Cv.load_cells rfl 31 _ rfl b0 (o0 + 3) rfl #[.string (strB (Tm.knd d)), .string (strB (Tm.txt d)), .slice Ad (Tm.prt d).length cd] _ (HCd.out _ HBW.out) Tryd.underlying31 rfl (by kernel_rfl) ?_; skip) | (go_at_call 34; refine (HHS.out _ HBW.out).mono ?_; rintro e W5 ⟨rfl, hb5⟩; skip; have HBWx := Lib.hid (HBW.out.trans (Below.mono hb5 HBW.out.size)); clear HBW; have HBW := HBWx; clear HBWx; have HYx := Lib.hid (HY.out.below hb5 HY.out.lt); clear HY; have HY := HYx; clear HYx; have x0 := HY.out.cell 0 (v := .string (strB (Tm.knd (.two 6 a d)))) rfl; have x2 := HY.out.cell 2 (v := .slice (some ⟨b0, o0, none⟩) 2 c0) rfl; have d0c := (show World.cell? _ ⟨b0, o0 + 3, none⟩ = some (.string (strB (Tm.knd d))) from HCd.out _ HBW.out 0 _ rfl); have d1c := (show World.cell? _ ⟨b0, o0 + 3 + 1, none⟩ = some (.string (strB (Tm.txt d))) from HCd.out _ HBW.out 1 _ rfl); have d2c := (show World.cell? _ ⟨b0, o0 + 3 + 2, none⟩ = some (.slice Ad (Tm.prt d).length cd) from HCd.out _ HBW.out 2 _ rfl); have a0c := (show World.cell? _ ⟨b0, o0, none⟩ = some (.string (strB (Tm.knd a))) from HCa.out _ HBW.out 0 _ rfl); have a1c := (show World.cell? _ ⟨b0, o0 + 1, none⟩ = some (.string (strB (Tm.txt a))) from HCa.out _ HBW.out 1 _ rfl); have a2c := (show World.cell? _ ⟨b0, o0 + 2, none⟩ = some (.slice Aa (Tm.prt a).length ca) from HCa.out _ HBW.out 2 _ rfl); clear hb5) | (refine Cv.load_cells rfl 31 _ rfl b0 o0 rfl #[.string (strB (Tm.knd a)), .string (strB (Tm.txt a)), .slice Aa (Tm.prt a).length ca] _ (HCa.out _ HBW.out) Tryd.underlying31 rfl (by kernel_rfl) ?_; skip) | (go_at_call 15; refine (HDR.out _ HBW.out).mono ?_; rintro e W7 ⟨rfl, hb7⟩; skip; have HBWx := Lib.hid (HBW.out.trans (Below.mono hb7 HBW.out.size)); clear HBW; have HBW := HBWx; clear HBWx; have HYx := Lib.hid (HY.out.below hb7 HY.out.lt); clear HY; have HY := HYx; clear HYx; have x0 := HY.out.cell 0 (v := .string (strB (Tm.knd (.two 6 a d)))) rfl; have x2 := HY.out.cell 2 (v := .slice (some ⟨b0, o0, none⟩) 2 c0) rfl; have d0c := (show World.cell? _ ⟨b0, o0 + 3, none⟩ = some (.string (strB (Tm.knd d))) from HCd.out _ HBW.out 0 _ rfl); have d1c := (show World.cell? _ ⟨b0, o0 + 3 + 1, none⟩ = some (.string (strB (Tm.txt d))) from HCd.out _ HBW.out 1 _ rfl); have d2c := (show World.cell? _ ⟨b0, o0 + 3 + 2, none⟩ = some (.slice Ad (Tm.prt d).length cd) from HCd.out _ HBW.out 2 _ rfl); have a0c := (show World.cell? _ ⟨b0, o0, none⟩ = some (.string (strB (Tm.knd a))) from HCa.out _ HBW.out 0 _ rfl); have a1c := (show World.cell? _ ⟨b0, o0 + 1, none⟩ = some (.string (strB (Tm.txt a))) from HCa.out _ HBW.out 1 _ rfl); have a2c := (show World.cell? _ ⟨b0, o0 + 2, none⟩ = some (.slice Aa (Tm.prt a).length ca) from HCa.out _ HBW.out 2 _ rfl); clear hb7) | (go_at_call 36; refine (HTD.out _ HBW.out).mono ?_; rintro e W8 ⟨⟨v8, rfl⟩, hk8, hg8⟩; skip; have HK8 := Lib.hid hk8.tight; have HG8 := Lib.hid hg8; clear hk8 hg8))
                have HNI := Lib.hid (of_decide_eq_false HSD.out)
                go_roundw
                case rel =>
                  have REL := Lib.hid (show ∃ (j' : Nat) (K2' : List Tm) (b2' : Bool), j' ≤ m ∧ Value.int .i64 (wrap64 ((j : Int) + 1)) = .int .i64 j' ∧ Value.bool true = .bool b2' ∧ Rn K1 K2' b2' j' ∧ St LL (univ LL) K2' ∧ IsKn W8 kb mb (n + 1) K2'.length K2' ∧ Gb W2 mb W8 from ⟨j + 1, tk d K2, true, by omega, step_int HW9.out, rfl, HRN.out.fire (fun x hx => tk_sub d K2 hx) (tk_more HNI.out), (HSI.out.opens (univ_hold LL) HU2.out HSA.out HNI.out).1, HK8.out, (HGI.out.lat HBW.out).trans HG8.out⟩)
                  first
                    | exact REL.out
                    | ((repeat apply Exists.intro); refine ⟨?_, rfl⟩; exact REL.out)
                case measure => exact step_less h5 HW9.out
          · obtain ⟨Aq, cq, rfl⟩ := HQ.out.slice
            have hs1 := knd_ne6 HUW.out (fun a d e => h6 ⟨a, d, e⟩)
            have HN6 := Lib.hid h6
            clear h6
            go_upto_region 14 with (refine Rg.store_fresh rfl 31 _ _ rfl #[.string (strB (Tm.knd u)), .string (strB (Tm.txt u)), .slice Aq (Tm.prt u).length cq] _ 31 rfl rfl (by kernel_rfl) rfl (by simp [Value.oneCell']) ?_; intro Y hY hbY; have HY := Lib.hid hY; have HBY := Lib.hid hbY; have HBW := Lib.hid hbY; clear hY hbY)
            clear k1 hl9 hc2
            have x0 := HY.out.cell 0 (v := .string (strB (Tm.knd u))) rfl
            have x2 := HY.out.cell 2 (v := .slice Aq u.prt.length cq) rfl
            go_wp2
            go_roundw
            case rel =>
              have REL := Lib.hid (show ∃ (j' : Nat) (K2' : List Tm) (b2' : Bool), j' ≤ m ∧ Value.int .i64 (wrap64 ((j : Int) + 1)) = .int .i64 j' ∧ Value.bool b2 = .bool b2' ∧ Rn K1 K2' b2' j' ∧ St LL (univ LL) K2' ∧ IsKn Y kb mb (n + 1) K2'.length K2' ∧ Gb W2 mb Y from ⟨j + 1, K2, b2, by omega, step_int HW9.out, rfl, HRN.out.skip HS1.out.wf HUJ.out HXJ.out (fun a d e => absurd ⟨a, d, e⟩ HN6.out), HSI.out, HKI.out.below HBY.out, HGI.out.lat HBY.out⟩)
              first
                | exact REL.out
                | ((repeat apply Exists.intro); refine ⟨?_, rfl⟩; exact REL.out)
            case measure => exact step_less h5 HW9.out
        · have hd5 : decide (j < m) = false := by simp; omega
          have hi5 : ¬ (j : Int) < m := by omega
          go_wp2
          cases b2 with
          | true =>
            go_roundg (UN - K2.length + 1)
            case measure => have h7 := HMS.out; have h8 := HRN.out.len rfl; have h9 := HSI.out.len; have h10 := HUN.out; have h11 := HML.out; simp at h7; omega
            case rel => exact ⟨K2, true, rfl, fun _ => by omega, HSI.out, HKI.out, HG2.out.trans HGI.out, fun h => by cases h⟩
          | false =>
            go_roundg 0
            case measure => have h7 := HMS.out; simp at h7; omega
            case rel => exact ⟨K2, false, rfl, (fun h => by cases h), HSI.out, HKI.out, HG2.out.trans HGI.out, fun _ => HRN.out.fin (by rw [HPL.out]; omega)⟩
end Go.Proofs.YtfcemnebhapidaaDoor.Te
