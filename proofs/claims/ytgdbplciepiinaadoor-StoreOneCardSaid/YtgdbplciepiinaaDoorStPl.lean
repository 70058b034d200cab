/- The law StorePlays: the walk. -/
import Derived.Test.YtgdbplciepiinaaDoorStCb
set_option linter.unusedVariables false
set_option linter.unusedSimpArgs false
namespace Go.Proofs.YtgdbplciepiinaaDoor.St
open Go.RowKit Go.Proofs.YtgdbplciepiinaaDoor.Ow Go.Proofs.YtgdbplciepiinaaDoor.Cv Go.Proofs.YtgdbplciepiinaaDoor.Mp Go.Maps
/-- a call of the law's list -/
abbrev Ac := Int × UInt8 × ByteArray
def actV (q : Ac) : Array Value := #[.int .i64 q.1, .int .u8 (q.2.1.toNat : Int), .string q.2.2]
/-- a slice of calls reads as xs -/
def RdAc (W : World) (A : Option Addr) (xs : List Ac) : Prop := ∀ j q, xs[j]? = some q → ∃ b o, A = some ⟨b, o, none⟩ ∧ b < W.heap.size ∧ ∀ i v, (actV q)[i]? = some v → W.cell? ⟨b, (o + j * 3) + i, none⟩ = some v
@[irreducible] def key5 (x : UInt8) : List UInt8 := [0, 0, 0, 0, 0, x] ++ List.replicate 26 0
theorem key5_len (x : UInt8) : (key5 x).length = 32 := by unfold key5; rfl
theorem key5_eq (x : UInt8) : (#[.int .u8 0, .int .u8 0, .int .u8 0, .int .u8 0, .int .u8 0, .int .u8 (x.toNat : Int), .int .u8 0, .int .u8 0, .int .u8 0, .int .u8 0, .int .u8 0, .int .u8 0, .int .u8 0, .int .u8 0, .int .u8 0, .int .u8 0, .int .u8 0, .int .u8 0, .int .u8 0, .int .u8 0, .int .u8 0, .int .u8 0, .int .u8 0, .int .u8 0, .int .u8 0, .int .u8 0, .int .u8 0, .int .u8 0, .int .u8 0, .int .u8 0, .int .u8 0, .int .u8 0] : Array Value) = bytesV (key5 x) := by unfold bytesV key5; rfl
theorem clamp_le (n : Int) : clampN n ≤ 64 := by unfold clampN; omega
theorem IsSt.ltO {w : World} {sb bo bw T K N : Nat} {L : List Pr} (h : IsSt w sb bo bw T K N L) : bo < w.heap.size := by obtain ⟨_, _, _, ⟨f, hf, _⟩, _⟩ := h; exact hf.lt
theorem IsSt.ltW {w : World} {sb bo bw T K N : Nat} {L : List Pr} (h : IsSt w sb bo bw T K N L) : bw < w.heap.size := by obtain ⟨_, _, _, _, ⟨g, s, hg, _⟩⟩ := h; exact hg.lt
theorem built5 (x : UInt8) : Tryd.prog.built 34 [(5, .int .u8 (x.toNat : Int))] = some #[.int .u8 0, .int .u8 0, .int .u8 0, .int .u8 0, .int .u8 0, .int .u8 (x.toNat : Int), .int .u8 0, .int .u8 0, .int .u8 0, .int .u8 0, .int .u8 0, .int .u8 0, .int .u8 0, .int .u8 0, .int .u8 0, .int .u8 0, .int .u8 0, .int .u8 0, .int .u8 0, .int .u8 0, .int .u8 0, .int .u8 0, .int .u8 0, .int .u8 0, .int .u8 0, .int .u8 0, .int .u8 0, .int .u8 0, .int .u8 0, .int .u8 0, .int .u8 0, .int .u8 0] := by kernel_rfl
set_option maxRecDepth 20000 in
set_option maxHeartbeats 16000000 in
theorem law_StorePlays (w : World) (p0 : Int) (_ : (Lit.int .i64 p0).wf = true) (p1 : Int) (_ : (Lit.int .i64 p1).wf = true) (A : Option Addr) (c : Nat) (xs : List Ac) (hR : RdAc w A xs) (hc : xs.length ≤ c) (hm : c ≤ maxLen) (a : Nat → Addr) (hE : Ei.ErrsAll w a) :
    Calls Tryd.prog 4 #[.int .i64 p0, .int .i64 p1, .slice A xs.length c] w fun e w' => e = .returned (.bool true) ∧ Below w.heap.size w w' := by
  have HAW := Lib.hid (awake16 w a hE)
  have HNW := Lib.hid (fun W => New_any W p0 p1)
  have HRN := Lib.hid (fun W => RNew_any W p0 p1)
  have HR := Lib.hid hR
  have HTM := Lib.hid (show clampN p1 ≤ 64 ∧ clampN p0 ≤ 64 from ⟨clamp_le _, clamp_le _⟩)
  generalize hT : clampN p0 = T at *
  generalize hM : clampN p1 = M at *
  generalize hn : xs.length = n at *
  have HN := Lib.hid hn
  unfold maxLen at hm
  clear hR hT hM hn
  go_enter Tryd.func4, Tryd.ntmps4
  go_upto_region 4 with (first
    | (go_at_call 6; refine HAW.out.mono ?_; rintro e w1 ⟨rfl, hb1⟩; skip; have HB := Lib.hid hb1; clear hb1)
    | (go_at_call 10; refine (HNW.out _).mono ?_; rintro e w2 ⟨sb, bo, bw, rfl, hs, hb2, hsb, hbo, hbw⟩; skip; have HNB0 := Lib.hid (show w.heap.size ≤ sb ∧ w.heap.size ≤ bo ∧ w.heap.size ≤ bw by have := HB.out.size; exact ⟨by omega, by omega, by omega⟩); have HBx := Lib.hid (HB.out.trans (Below.mono hb2 HB.out.size)); clear HB; have HB := HBx; clear HBx; have HS := Lib.hid hs; clear hs hb2 hsb hbo hbw)
    | (go_at_call 11; refine (HRN.out _).mono ?_; rintro e w3 ⟨rfl, hb3⟩; skip; have HBx := Lib.hid (HB.out.trans (Below.mono hb3 HB.out.size)); clear HB; have HB := HBx; clear HBx; have HSx := Lib.hid (HS.out.below hb3); clear HS; have HS := HSx; clear HSx; clear hb3)
    | (refine Rg.store_fresh rfl 30 _ _ rfl #[.int .i64 (T : Int), .int .i64 (M : Int), .slice none 0 0] _ 30 rfl rfl (by kernel_rfl) rfl (by simp [Value.oneCell']) ?_; intro X hX hbX; have HNB := Lib.hid (show w.heap.size ≤ bo ∧ w.heap.size ≤ bw ∧ bo < w3.heap.size ∧ bw < w3.heap.size ∧ w.heap.size ≤ w3.heap.size from ⟨HNB0.out.2.1, HNB0.out.2.2, HS.out.ltO, HS.out.ltW, HB.out.size⟩); have HSX := Lib.hid (show sb ≠ w3.heap.size from fun e => by have := HS.out.1.lt; omega); have HBx := Lib.hid (HB.out.trans (Below.mono hbX HB.out.size)); clear HB; have HB := HBx; clear HBx; have HSx := Lib.hid (HS.out.below hbX); clear HS; have HS := HSx; clear HSx; have HX0 := Lib.hid hX; clear hX hbX))
  generalize hbx : w3.heap.size = bx at *
  go_upto_region 7 with fail
  go_loopw [9] (fun i wr => ∃ (j : Nat) (L : List Pr) (Av : Option Addr) (nv cv : Nat), j ≤ n ∧ j ≤ 120 ∧ i = .int .i64 j ∧ IsSt wr sb bo bw T M j L ∧ Rg.Blk wr bx 30 #[.int .i64 (T : Int), .int .i64 (M : Int), .slice Av nv cv] ∧ PS wr (.slice Av nv cv) L ∧ L.length ≤ j ∧ Below w.heap.size w wr) (fun i _ => 120 - (intOf i).toNat)
  case atStart => exact ⟨0, [], none, 0, 0, Nat.zero_le _, Nat.zero_le _, rfl, HS.out, HX0.out, PS.nil _, Nat.le_refl _, HB.out⟩
  clear HB HS HX0
  case round =>
    obtain ⟨j, L, Av, nv, cv, hjn, hj, rfl, hs, hx, hp, hl, hb⟩ := hrel
    have HS := Lib.hid hs
    have HX := Lib.hid hx
    have HP := Lib.hid hp
    have HLN := Lib.hid hl
    have HB := Lib.hid hb
    have HGD := Lib.hid hs.2.2.1
    clear hs hx hp hl hb
    by_cases h1 : j < n
    · have hd1 : decide (j < n) = true := by simp; exact h1
      have hd1i : decide ((j : Int) < (n : Int)) = true := by simp; exact h1
      by_cases h2 : j < 120
      · have hd2 : decide (j < 120) = true := by simp; exact h2
        have hd2i : decide ((j : Int) < 120) = true := by simp; omega
        have hik : (j : Int) < n := by omega
        have hik0 : (0 : Int) ≤ j := by omega
        obtain ⟨q, hq⟩ : ∃ q, xs[j]? = some q := ⟨_, List.getElem?_eq_getElem (by rw [HN.out]; exact h1)⟩
        obtain ⟨b, o, rfl, hbl, hcell⟩ := HR.out j q hq
        have HC := Lib.hid (show ∀ i v, (actV q)[i]? = some v → wr.cell? ⟨b, (o + j * 3) + i, none⟩ = some v from fun i v hv => (HB.out.cell (p := ⟨b, o + j * 3 + i, none⟩) hbl).trans (hcell i v hv))
        clear hcell hq
        go_upto_region 10 with (first
          | (refine Cv.load_cells rfl 33 _ rfl b (o + j * 3) rfl (actV q) _ HC.out Tryd.underlying33 rfl (by kernel_rfl) ?_; skip)
          | (refine Rg.store_fresh rfl 33 _ _ rfl (actV q) _ 33 rfl rfl (by kernel_rfl) rfl (by simp [actV, Value.oneCell']) ?_; intro Y hY hbY; have HA := Lib.hid hY; have HSx := Lib.hid (HS.out.below hbY); clear HS; have HS := HSx; clear HSx; have HXx := Lib.hid (HX.out.below hbY HX.out.lt); clear HX; have HX := HXx; clear HXx; have HPx := Lib.hid (HP.out.below hbY); clear HP; have HP := HPx; clear HPx; have HBx := Lib.hid (HB.out.trans (Below.mono hbY HB.out.size)); clear HB; have HB := HBx; clear HBx; clear hY hbY))
        have c1 := HA.out.cell 1 (v := .int .u8 (q.2.1.toNat : Int)) rfl
        have hu0 : (0 : Int) ≤ q.2.1.toNat := by omega
        have hu1 := q.2.1.toNat_lt
        go_upto_region 11 with (refine Rg.store_fresh rfl 34 _ _ rfl #[.int .u8 0, .int .u8 0, .int .u8 0, .int .u8 0, .int .u8 0, .int .u8 (q.2.1.toNat : Int), .int .u8 0, .int .u8 0, .int .u8 0, .int .u8 0, .int .u8 0, .int .u8 0, .int .u8 0, .int .u8 0, .int .u8 0, .int .u8 0, .int .u8 0, .int .u8 0, .int .u8 0, .int .u8 0, .int .u8 0, .int .u8 0, .int .u8 0, .int .u8 0, .int .u8 0, .int .u8 0, .int .u8 0, .int .u8 0, .int .u8 0, .int .u8 0, .int .u8 0, .int .u8 0] _ 34 rfl rfl (by kernel_rfl) rfl (by simp [Value.oneCell']) ?_; intro U hU hbU; have HKN := Lib.hid (show bo < Y.heap.size ∧ bw < Y.heap.size from ⟨HS.out.ltO, HS.out.ltW⟩); have HSx := Lib.hid (HS.out.below hbU); clear HS; have HS := HSx; clear HSx; have HXx := Lib.hid (HX.out.below hbU HX.out.lt); clear HX; have HX := HXx; clear HXx; have HPx := Lib.hid (HP.out.below hbU); clear HP; have HP := HPx; clear HPx; have HBx := Lib.hid (HB.out.trans (Below.mono hbU HB.out.size)); clear HB; have HB := HBx; clear HBx; have HAx := Lib.hid (HA.out.below hbU HA.out.lt); clear HA; have HA := HAx; clear HAx; have HK := Lib.hid (show Rg.Blk U Y.heap.size 34 (bytesV (key5 q.2.1)) from (key5_eq q.2.1) ▸ hU); clear hU hbU)
        clear c1 hu0 hu1
        have hkl := key5_len q.2.1
        have HVK := Lib.hid (show (bytesV (key5 q.2.1)).size = 32 by rw [bytesV_size, hkl])
        generalize key5 q.2.1 = key at *
        generalize Y.heap.size = bk at *
        by_cases hk1 : q.1 = 1
        · rw [show actV q = #[.int .i64 1, .int .u8 (q.2.1.toNat : Int), .string q.2.2] by unfold actV; rw [hk1]] at HA
          cases hw : whoOf L key with
          | some t =>
            have HRL := Lib.hid (show ∀ W v, PS W v L → Calls Tryd.prog 12 #[.agg #[.int .i64 (T : Int), .int .i64 (M : Int), v], .agg (bytesV key)] W fun e w' => e = .returned (.string (strB t)) ∧ Below W.heap.size W w' from fun W v hW => by have := RLookup_any W T M v L hW (by have := HLN.out; omega) key hkl; rw [hw] at this; exact this)
            have HWH := Lib.hid hw
            have c0 := HA.out.cell 0 (v := .int .i64 1) rfl
            go_upto_region 12 with (first
              | (refine Cv.load_cells rfl 30 _ rfl bx 0 rfl #[.int .i64 (T : Int), .int .i64 (M : Int), .slice Av nv cv] _ (fun j v hv => by rw [Nat.zero_add]; exact HX.out.cell j hv) Tryd.underlying30 rfl (by kernel_rfl) ?_; skip)
              | (refine Cv.load_cells rfl 34 _ rfl bk 0 rfl (bytesV key) _ (Cv.Bytes.of_blk HK.out).cells Tryd.underlying34 rfl (by rw [HVK.out]; kernel_rfl) ?_; skip)
              | (go_at_call 12; refine (HRL.out _ _ HP.out).mono ?_; rintro e w1 ⟨rfl, hb⟩; skip; have HSx := Lib.hid (HS.out.below hb); clear HS; have HS := HSx; clear HSx; have HXx := Lib.hid (HX.out.below hb HX.out.lt); clear HX; have HX := HXx; clear HXx; have HPx := Lib.hid (HP.out.below hb); clear HP; have HP := HPx; clear HPx; have HBx := Lib.hid (HB.out.trans (Below.mono hb HB.out.size)); clear HB; have HB := HBx; clear HBx; have HAx := Lib.hid (HA.out.below hb HA.out.lt); clear HA; have HA := HAx; clear HAx; have HKx := Lib.hid (HK.out.below hb HK.out.lt); clear HK; have HK := HKx; clear HKx; clear hb))
            have c0 := HA.out.cell 0 (v := .int .i64 1) rfl
            have hs1 : ((strB t).toList == (strB t).toList) = true := beq_self_eq_true _
            have HTN := Lib.hid (show validB t = true from HS.out.2.2.1.val _ (whoOf_mem hw))
            have hs2 : ((strB t).toList == []) = false := by
              rw [strB_toList, beq_eq_false_iff_ne]
              intro e
              have := HTN.out
              rw [e] at this
              revert this
              decide
            go_upto_region 21 with (first
              | (refine Cv.load_cells rfl 34 _ rfl bk 0 rfl (bytesV key) _ (Cv.Bytes.of_blk HK.out).cells Tryd.underlying34 rfl (by rw [HVK.out]; kernel_rfl) ?_; skip)
              | (go_at_call 13; refine (Lookup_some _ sb bo bw T M j L HS.out key hkl t HWH.out).mono ?_; rintro e w2 ⟨rfl, hb⟩; skip; have HSx := Lib.hid (HS.out.below hb); clear HS; have HS := HSx; clear HSx; have HXx := Lib.hid (HX.out.below hb HX.out.lt); clear HX; have HX := HXx; clear HXx; have HPx := Lib.hid (HP.out.below hb); clear HP; have HP := HPx; clear HPx; have HBx := Lib.hid (HB.out.trans (Below.mono hb HB.out.size)); clear HB; have HB := HBx; clear HBx; have HAx := Lib.hid (HA.out.below hb HA.out.lt); clear HA; have HA := HAx; clear HAx; have HKx := Lib.hid (HK.out.below hb HK.out.lt); clear HK; have HK := HKx; clear HKx; clear hb))
            have c0 := HA.out.cell 0 (v := .int .i64 1) rfl
            go_upto_region 23 with (first
              | (refine Cv.load_cells rfl 34 _ rfl bk 0 rfl (bytesV key) _ (Cv.Bytes.of_blk HK.out).cells Tryd.underlying34 rfl (by rw [HVK.out]; kernel_rfl) ?_; skip)
              | (go_at_call 14; refine (Revoke_some _ sb bo bw T M j L HS.out key hkl t HWH.out (by omega) (by have := keys_len (L := L) t; have := HLN.out; omega) (by have := valid_63 HTN.out; omega) _ rfl).mono ?_; rintro e w3 ⟨rfl, hs, hu⟩; skip; have hmp := HS.out.isMaps; have HPx := Lib.hid (HP.out.maps hu hmp); clear HP; have HP := HPx; clear HPx; have HXx := Lib.hid (upd_blk HX.out hu (by have := HNB.out; simp; omega)); clear HX; have HX := HXx; clear HXx; have HKx := Lib.hid (upd_blk HK.out hu (by have := HKN.out; simp; omega)); clear HK; have HK := HKx; clear HKx; have HBx := Lib.hid (upd_below HB.out hu (by have := HNB.out; intro x hx; simp at hx; omega) HB.out.size); clear HB; have HB := HBx; clear HBx; clear HS; have HS := Lib.hid hs; clear hs hu hmp))
            clear c0
            go_upto_region 24 with (first
              | (refine Cv.load_cells rfl 30 _ rfl bx 0 rfl #[.int .i64 (T : Int), .int .i64 (M : Int), .slice Av nv cv] _ (fun j v hv => by rw [Nat.zero_add]; exact HX.out.cell j hv) Tryd.underlying30 rfl (by kernel_rfl) ?_; skip)
              | (refine Cv.load_cells rfl 34 _ rfl bk 0 rfl (bytesV key) _ (Cv.Bytes.of_blk HK.out).cells Tryd.underlying34 rfl (by rw [HVK.out]; kernel_rfl) ?_; skip)
              | (go_at_call 15; refine (RRevoke_any _ T M _ L HP.out (by have := HLN.out; omega) key hkl).mono ?_; rintro e w4 ⟨v4, rfl, hp, hb⟩; obtain ⟨A2, c2, hv4⟩ := (show ∃ A c, v4 = .slice A (delP L key).length c from by obtain ⟨A2, c2, h1, _⟩ := hp; exact ⟨A2, c2, h1⟩); subst hv4; skip; have HSx := Lib.hid (HS.out.below hb); clear HS; have HS := HSx; clear HSx; have HXx := Lib.hid (HX.out.below hb HX.out.lt); clear HX; have HX := HXx; clear HXx; have HBx := Lib.hid (HB.out.trans (Below.mono hb HB.out.size)); clear HB; have HB := HBx; clear HBx; clear HP; have HP := Lib.hid hp; clear hp hb)
              | (refine Cv.store_blk rfl 30 _ _ rfl bx #[.int .i64 (T : Int), .int .i64 (M : Int), .slice A2 (delP L key).length c2] #[.int .i64 (T : Int), .int .i64 (M : Int), .slice Av nv cv] 30 rfl rfl HX.out (by kernel_rfl) rfl (by simp [Value.oneCell']) ?_; intro V hV hgV; have HSx := Lib.hid (HS.out.small HX.out (by show 3 < 32; decide) hgV HSX.out); clear HS; have HS := HSx; clear HSx; have HPx := Lib.hid (HP.out.small HX.out (by show 3 < 32; decide) hgV); clear HP; have HP := HPx; clear HPx; have HBx := Lib.hid (HB.out.grown hgV HB.out.size (fun i hi => by cases hi; have := HNB.out; omega)); clear HB; have HB := HBx; clear HBx; clear HX; have HX := Lib.hid hV; clear hV hgV))
            generalize hn2 : (delP L key).length = n2 at *
            have HLL := Lib.hid (show (delP L key).length ≤ j + 1 by have := delP_len L key; have := HLN.out; omega)
            go_upto_region 26 with fail
            clear hs1 hs2
            go_wp2_with (first
              | (refine Cv.load_cells rfl 30 _ rfl bx 0 rfl #[.int .i64 (T : Int), .int .i64 (M : Int), .slice A2 n2 c2] _ (fun j v hv => by rw [Nat.zero_add]; exact HX.out.cell j hv) Tryd.underlying30 rfl (by kernel_rfl) ?_; skip)
              | (go_at_call 19; refine (Is_any _ sb bo bw T M (j + 1) _ HS.out T M _ HP.out (by have := HLL.out; omega)).mono ?_; rintro e wz ⟨rfl, hb⟩; skip; have HSx := Lib.hid (HS.out.below hb); clear HS; have HS := HSx; clear HSx; have HXx := Lib.hid (HX.out.below hb HX.out.lt); clear HX; have HX := HXx; clear HXx; have HPx := Lib.hid (HP.out.below hb); clear HP; have HP := HPx; clear HPx; have HBx := Lib.hid (HB.out.trans (Below.mono hb HB.out.size)); clear HB; have HB := HBx; clear HBx; clear hb))
            go_roundw
            case rel =>
              first
                | exact ⟨j + 1, delP L key, _, _, _, by omega, by omega, by go_num, HS.out, HX.out, HP.out, HLL.out, HB.out⟩
                | ((repeat apply Exists.intro); refine ⟨?_, rfl⟩; exact ⟨j + 1, delP L key, _, _, _, by omega, by omega, by go_num, HS.out, HX.out, HP.out, HLL.out, HB.out⟩)
            case measure => (first | (simp [intOf]; done) | (simp [intOf]; omega))
          | none =>
            have HRL := Lib.hid (show ∀ W v, PS W v L → Calls Tryd.prog 12 #[.agg #[.int .i64 (T : Int), .int .i64 (M : Int), v], .agg (bytesV key)] W fun e w' => e = .returned (.string ⟨#[]⟩) ∧ Below W.heap.size W w' from fun W v hW => by have := RLookup_any W T M v L hW (by have := HLN.out; omega) key hkl; rw [hw] at this; exact this)
            have HWH := Lib.hid hw
            have c0 := HA.out.cell 0 (v := .int .i64 1) rfl
            go_upto_region 12 with (first
              | (refine Cv.load_cells rfl 30 _ rfl bx 0 rfl #[.int .i64 (T : Int), .int .i64 (M : Int), .slice Av nv cv] _ (fun j v hv => by rw [Nat.zero_add]; exact HX.out.cell j hv) Tryd.underlying30 rfl (by kernel_rfl) ?_; skip)
              | (refine Cv.load_cells rfl 34 _ rfl bk 0 rfl (bytesV key) _ (Cv.Bytes.of_blk HK.out).cells Tryd.underlying34 rfl (by rw [HVK.out]; kernel_rfl) ?_; skip)
              | (go_at_call 12; refine (HRL.out _ _ HP.out).mono ?_; rintro e w1 ⟨rfl, hb⟩; skip; have HSx := Lib.hid (HS.out.below hb); clear HS; have HS := HSx; clear HSx; have HXx := Lib.hid (HX.out.below hb HX.out.lt); clear HX; have HX := HXx; clear HXx; have HPx := Lib.hid (HP.out.below hb); clear HP; have HP := HPx; clear HPx; have HBx := Lib.hid (HB.out.trans (Below.mono hb HB.out.size)); clear HB; have HB := HBx; clear HBx; have HAx := Lib.hid (HA.out.below hb HA.out.lt); clear HA; have HA := HAx; clear HAx; have HKx := Lib.hid (HK.out.below hb HK.out.lt); clear HK; have HK := HKx; clear HKx; clear hb))
            have c0 := HA.out.cell 0 (v := .int .i64 1) rfl
            have hs1 : ((⟨#[]⟩ : ByteArray).toList == (⟨#[]⟩ : ByteArray).toList) = true := beq_self_eq_true _
            have hs2 : ((⟨#[]⟩ : ByteArray).toList == []) = true := by rw [ByteArray.toList_eq]; rfl
            have hs3 : (([] : List UInt8) == []) = true := rfl
            go_upto_region 21 with (first
              | (refine Cv.load_cells rfl 34 _ rfl bk 0 rfl (bytesV key) _ (Cv.Bytes.of_blk HK.out).cells Tryd.underlying34 rfl (by rw [HVK.out]; kernel_rfl) ?_; skip)
              | (go_at_call 13; refine (Lookup_none _ sb bo bw T M j L HS.out key hkl a (hE.below HB.out) HWH.out).mono ?_; rintro e w2 ⟨rfl, hb⟩; skip; have HSx := Lib.hid (HS.out.below hb); clear HS; have HS := HSx; clear HSx; have HXx := Lib.hid (HX.out.below hb HX.out.lt); clear HX; have HX := HXx; clear HXx; have HPx := Lib.hid (HP.out.below hb); clear HP; have HP := HPx; clear HPx; have HBx := Lib.hid (HB.out.trans (Below.mono hb HB.out.size)); clear HB; have HB := HBx; clear HBx; have HAx := Lib.hid (HA.out.below hb HA.out.lt); clear HA; have HA := HAx; clear HAx; have HKx := Lib.hid (HK.out.below hb HK.out.lt); clear HK; have HK := HKx; clear HKx; clear hb))
            have c0 := HA.out.cell 0 (v := .int .i64 1) rfl
            go_upto_region 23 with (first
              | (refine Cv.load_cells rfl 34 _ rfl bk 0 rfl (bytesV key) _ (Cv.Bytes.of_blk HK.out).cells Tryd.underlying34 rfl (by rw [HVK.out]; kernel_rfl) ?_; skip)
              | (go_at_call 14; refine (Revoke_none _ sb bo bw T M j L HS.out key hkl a (hE.below HB.out) HWH.out).mono ?_; rintro e w3 ⟨rfl, hb⟩; skip; have HSx := Lib.hid (HS.out.below hb); clear HS; have HS := HSx; clear HSx; have HXx := Lib.hid (HX.out.below hb HX.out.lt); clear HX; have HX := HXx; clear HXx; have HPx := Lib.hid (HP.out.below hb); clear HP; have HP := HPx; clear HPx; have HBx := Lib.hid (HB.out.trans (Below.mono hb HB.out.size)); clear HB; have HB := HBx; clear HBx; have HKx := Lib.hid (HK.out.below hb HK.out.lt); clear HK; have HK := HKx; clear HKx; clear hb))
            have HSx := Lib.hid (show IsSt _ sb bo bw T M (j + 1) (delP L key) by rw [del_same hw]; exact HS.out.mono (Nat.le_succ j)); clear HS; have HS := HSx; clear HSx
            clear c0
            go_upto_region 24 with (first
              | (refine Cv.load_cells rfl 30 _ rfl bx 0 rfl #[.int .i64 (T : Int), .int .i64 (M : Int), .slice Av nv cv] _ (fun j v hv => by rw [Nat.zero_add]; exact HX.out.cell j hv) Tryd.underlying30 rfl (by kernel_rfl) ?_; skip)
              | (refine Cv.load_cells rfl 34 _ rfl bk 0 rfl (bytesV key) _ (Cv.Bytes.of_blk HK.out).cells Tryd.underlying34 rfl (by rw [HVK.out]; kernel_rfl) ?_; skip)
              | (go_at_call 15; refine (RRevoke_any _ T M _ L HP.out (by have := HLN.out; omega) key hkl).mono ?_; rintro e w4 ⟨v4, rfl, hp, hb⟩; obtain ⟨A2, c2, hv4⟩ := (show ∃ A c, v4 = .slice A (delP L key).length c from by obtain ⟨A2, c2, h1, _⟩ := hp; exact ⟨A2, c2, h1⟩); subst hv4; skip; have HSx := Lib.hid (HS.out.below hb); clear HS; have HS := HSx; clear HSx; have HXx := Lib.hid (HX.out.below hb HX.out.lt); clear HX; have HX := HXx; clear HXx; have HBx := Lib.hid (HB.out.trans (Below.mono hb HB.out.size)); clear HB; have HB := HBx; clear HBx; clear HP; have HP := Lib.hid hp; clear hp hb)
              | (refine Cv.store_blk rfl 30 _ _ rfl bx #[.int .i64 (T : Int), .int .i64 (M : Int), .slice A2 (delP L key).length c2] #[.int .i64 (T : Int), .int .i64 (M : Int), .slice Av nv cv] 30 rfl rfl HX.out (by kernel_rfl) rfl (by simp [Value.oneCell']) ?_; intro V hV hgV; have HSx := Lib.hid (HS.out.small HX.out (by show 3 < 32; decide) hgV HSX.out); clear HS; have HS := HSx; clear HSx; have HPx := Lib.hid (HP.out.small HX.out (by show 3 < 32; decide) hgV); clear HP; have HP := HPx; clear HPx; have HBx := Lib.hid (HB.out.grown hgV HB.out.size (fun i hi => by cases hi; have := HNB.out; omega)); clear HB; have HB := HBx; clear HBx; clear HX; have HX := Lib.hid hV; clear hV hgV))
            generalize hn2 : (delP L key).length = n2 at *
            have HLL := Lib.hid (show (delP L key).length ≤ j + 1 by have := delP_len L key; have := HLN.out; omega)
            have HCD := Lib.hid (fun W (hW : Below w.heap.size w W) => show Calls Tryd.prog 16 #[.iface 119 (.pointer (some (a 8)))] W fun e w' => e = .returned (.int .i64 8) ∧ W = w' from Ei.Code_any W a (hE.below hW) 8 (by decide))
            go_upto_region 26 with (go_at_call 16; refine (HCD.out _ HB.out).mono ?_; rintro e w5 ⟨rfl, rfl⟩; skip)
            clear hs1 hs2 hs3
            go_wp2_with (first
              | (refine Cv.load_cells rfl 30 _ rfl bx 0 rfl #[.int .i64 (T : Int), .int .i64 (M : Int), .slice A2 n2 c2] _ (fun j v hv => by rw [Nat.zero_add]; exact HX.out.cell j hv) Tryd.underlying30 rfl (by kernel_rfl) ?_; skip)
              | (go_at_call 19; refine (Is_any _ sb bo bw T M (j + 1) _ HS.out T M _ HP.out (by have := HLL.out; omega)).mono ?_; rintro e wz ⟨rfl, hb⟩; skip; have HSx := Lib.hid (HS.out.below hb); clear HS; have HS := HSx; clear HSx; have HXx := Lib.hid (HX.out.below hb HX.out.lt); clear HX; have HX := HXx; clear HXx; have HPx := Lib.hid (HP.out.below hb); clear HP; have HP := HPx; clear HPx; have HBx := Lib.hid (HB.out.trans (Below.mono hb HB.out.size)); clear HB; have HB := HBx; clear HBx; clear hb))
            go_roundw
            case rel =>
              first
                | exact ⟨j + 1, delP L key, _, _, _, by omega, by omega, by go_num, HS.out, HX.out, HP.out, HLL.out, HB.out⟩
                | ((repeat apply Exists.intro); refine ⟨?_, rfl⟩; exact ⟨j + 1, delP L key, _, _, _, by omega, by omega, by go_num, HS.out, HX.out, HP.out, HLL.out, HB.out⟩)
            case measure => (first | (simp [intOf]; done) | (simp [intOf]; omega))
        · by_cases hk2 : q.1 = 2
          · rw [show actV q = #[.int .i64 2, .int .u8 (q.2.1.toNat : Int), .string q.2.2] by unfold actV; rw [hk2]] at HA
            cases hw : whoOf L key with
            | some t =>
              have HRL := Lib.hid (show ∀ W v, PS W v L → Calls Tryd.prog 12 #[.agg #[.int .i64 (T : Int), .int .i64 (M : Int), v], .agg (bytesV key)] W fun e w' => e = .returned (.string (strB t)) ∧ Below W.heap.size W w' from fun W v hW => by have := RLookup_any W T M v L hW (by have := HLN.out; omega) key hkl; rw [hw] at this; exact this)
              have HWH := Lib.hid hw
              have c0 := HA.out.cell 0 (v := .int .i64 2) rfl
              go_upto_region 12 with (first
                | (refine Cv.load_cells rfl 30 _ rfl bx 0 rfl #[.int .i64 (T : Int), .int .i64 (M : Int), .slice Av nv cv] _ (fun j v hv => by rw [Nat.zero_add]; exact HX.out.cell j hv) Tryd.underlying30 rfl (by kernel_rfl) ?_; skip)
                | (refine Cv.load_cells rfl 34 _ rfl bk 0 rfl (bytesV key) _ (Cv.Bytes.of_blk HK.out).cells Tryd.underlying34 rfl (by rw [HVK.out]; kernel_rfl) ?_; skip)
                | (go_at_call 12; refine (HRL.out _ _ HP.out).mono ?_; rintro e w1 ⟨rfl, hb⟩; skip; have HSx := Lib.hid (HS.out.below hb); clear HS; have HS := HSx; clear HSx; have HXx := Lib.hid (HX.out.below hb HX.out.lt); clear HX; have HX := HXx; clear HXx; have HPx := Lib.hid (HP.out.below hb); clear HP; have HP := HPx; clear HPx; have HBx := Lib.hid (HB.out.trans (Below.mono hb HB.out.size)); clear HB; have HB := HBx; clear HBx; have HAx := Lib.hid (HA.out.below hb HA.out.lt); clear HA; have HA := HAx; clear HAx; have HKx := Lib.hid (HK.out.below hb HK.out.lt); clear HK; have HK := HKx; clear HKx; clear hb))
              have c0 := HA.out.cell 0 (v := .int .i64 2) rfl
              have hs1 : ((strB t).toList == (strB t).toList) = true := beq_self_eq_true _
              have HTN := Lib.hid (show validB t = true from HS.out.2.2.1.val _ (whoOf_mem hw))
              have hs2 : ((strB t).toList == []) = false := by
                rw [strB_toList, beq_eq_false_iff_ne]
                intro e
                have := HTN.out
                rw [e] at this
                revert this
                decide
              go_upto_region 21 with (first
                | (refine Cv.load_cells rfl 34 _ rfl bk 0 rfl (bytesV key) _ (Cv.Bytes.of_blk HK.out).cells Tryd.underlying34 rfl (by rw [HVK.out]; kernel_rfl) ?_; skip)
                | (go_at_call 13; refine (Lookup_some _ sb bo bw T M j L HS.out key hkl t HWH.out).mono ?_; rintro e w2 ⟨rfl, hb⟩; skip; have HSx := Lib.hid (HS.out.below hb); clear HS; have HS := HSx; clear HSx; have HXx := Lib.hid (HX.out.below hb HX.out.lt); clear HX; have HX := HXx; clear HXx; have HPx := Lib.hid (HP.out.below hb); clear HP; have HP := HPx; clear HPx; have HBx := Lib.hid (HB.out.trans (Below.mono hb HB.out.size)); clear HB; have HB := HBx; clear HBx; have HAx := Lib.hid (HA.out.below hb HA.out.lt); clear HA; have HA := HAx; clear HAx; have HKx := Lib.hid (HK.out.below hb HK.out.lt); clear HK; have HK := HKx; clear HKx; clear hb))
              have c0 := HA.out.cell 0 (v := .int .i64 2) rfl
              have HSx := Lib.hid (HS.out.mono (Nat.le_succ j)); clear HS; have HS := HSx; clear HSx
              have HLL := Lib.hid (show L.length ≤ j + 1 by have := HLN.out; omega)
              go_upto_region 24 with fail
              clear c0
              go_upto_region 26 with fail
              clear hs1 hs2
              go_wp2_with (first
                | (refine Cv.load_cells rfl 30 _ rfl bx 0 rfl #[.int .i64 (T : Int), .int .i64 (M : Int), .slice Av nv cv] _ (fun j v hv => by rw [Nat.zero_add]; exact HX.out.cell j hv) Tryd.underlying30 rfl (by kernel_rfl) ?_; skip)
                | (go_at_call 19; refine (Is_any _ sb bo bw T M (j + 1) _ HS.out T M _ HP.out (by have := HLL.out; omega)).mono ?_; rintro e wz ⟨rfl, hb⟩; skip; have HSx := Lib.hid (HS.out.below hb); clear HS; have HS := HSx; clear HSx; have HXx := Lib.hid (HX.out.below hb HX.out.lt); clear HX; have HX := HXx; clear HXx; have HPx := Lib.hid (HP.out.below hb); clear HP; have HP := HPx; clear HPx; have HBx := Lib.hid (HB.out.trans (Below.mono hb HB.out.size)); clear HB; have HB := HBx; clear HBx; clear hb))
              go_roundw
              case rel =>
                first
                  | exact ⟨j + 1, L, _, _, _, by omega, by omega, by go_num, HS.out, HX.out, HP.out, HLL.out, HB.out⟩
                  | ((repeat apply Exists.intro); refine ⟨?_, rfl⟩; exact ⟨j + 1, L, _, _, _, by omega, by omega, by go_num, HS.out, HX.out, HP.out, HLL.out, HB.out⟩)
              case measure => (first | (simp [intOf]; done) | (simp [intOf]; omega))
            | none =>
              have HRL := Lib.hid (show ∀ W v, PS W v L → Calls Tryd.prog 12 #[.agg #[.int .i64 (T : Int), .int .i64 (M : Int), v], .agg (bytesV key)] W fun e w' => e = .returned (.string ⟨#[]⟩) ∧ Below W.heap.size W w' from fun W v hW => by have := RLookup_any W T M v L hW (by have := HLN.out; omega) key hkl; rw [hw] at this; exact this)
              have HWH := Lib.hid hw
              have c0 := HA.out.cell 0 (v := .int .i64 2) rfl
              go_upto_region 12 with (first
                | (refine Cv.load_cells rfl 30 _ rfl bx 0 rfl #[.int .i64 (T : Int), .int .i64 (M : Int), .slice Av nv cv] _ (fun j v hv => by rw [Nat.zero_add]; exact HX.out.cell j hv) Tryd.underlying30 rfl (by kernel_rfl) ?_; skip)
                | (refine Cv.load_cells rfl 34 _ rfl bk 0 rfl (bytesV key) _ (Cv.Bytes.of_blk HK.out).cells Tryd.underlying34 rfl (by rw [HVK.out]; kernel_rfl) ?_; skip)
                | (go_at_call 12; refine (HRL.out _ _ HP.out).mono ?_; rintro e w1 ⟨rfl, hb⟩; skip; have HSx := Lib.hid (HS.out.below hb); clear HS; have HS := HSx; clear HSx; have HXx := Lib.hid (HX.out.below hb HX.out.lt); clear HX; have HX := HXx; clear HXx; have HPx := Lib.hid (HP.out.below hb); clear HP; have HP := HPx; clear HPx; have HBx := Lib.hid (HB.out.trans (Below.mono hb HB.out.size)); clear HB; have HB := HBx; clear HBx; have HAx := Lib.hid (HA.out.below hb HA.out.lt); clear HA; have HA := HAx; clear HAx; have HKx := Lib.hid (HK.out.below hb HK.out.lt); clear HK; have HK := HKx; clear HKx; clear hb))
              have c0 := HA.out.cell 0 (v := .int .i64 2) rfl
              have hs1 : ((⟨#[]⟩ : ByteArray).toList == (⟨#[]⟩ : ByteArray).toList) = true := beq_self_eq_true _
              have hs2 : ((⟨#[]⟩ : ByteArray).toList == []) = true := by rw [ByteArray.toList_eq]; rfl
              have hs3 : (([] : List UInt8) == []) = true := rfl
              go_upto_region 21 with (first
                | (refine Cv.load_cells rfl 34 _ rfl bk 0 rfl (bytesV key) _ (Cv.Bytes.of_blk HK.out).cells Tryd.underlying34 rfl (by rw [HVK.out]; kernel_rfl) ?_; skip)
                | (go_at_call 13; refine (Lookup_none _ sb bo bw T M j L HS.out key hkl a (hE.below HB.out) HWH.out).mono ?_; rintro e w2 ⟨rfl, hb⟩; skip; have HSx := Lib.hid (HS.out.below hb); clear HS; have HS := HSx; clear HSx; have HXx := Lib.hid (HX.out.below hb HX.out.lt); clear HX; have HX := HXx; clear HXx; have HPx := Lib.hid (HP.out.below hb); clear HP; have HP := HPx; clear HPx; have HBx := Lib.hid (HB.out.trans (Below.mono hb HB.out.size)); clear HB; have HB := HBx; clear HBx; have HAx := Lib.hid (HA.out.below hb HA.out.lt); clear HA; have HA := HAx; clear HAx; have HKx := Lib.hid (HK.out.below hb HK.out.lt); clear HK; have HK := HKx; clear HKx; clear hb))
              have c0 := HA.out.cell 0 (v := .int .i64 2) rfl
              have HSx := Lib.hid (HS.out.mono (Nat.le_succ j)); clear HS; have HS := HSx; clear HSx
              have HLL := Lib.hid (show L.length ≤ j + 1 by have := HLN.out; omega)
              go_upto_region 24 with fail
              clear c0
              have HCD := Lib.hid (fun W (hW : Below w.heap.size w W) => show Calls Tryd.prog 16 #[.iface 119 (.pointer (some (a 8)))] W fun e w' => e = .returned (.int .i64 8) ∧ W = w' from Ei.Code_any W a (hE.below hW) 8 (by decide))
              go_upto_region 26 with (go_at_call 16; refine (HCD.out _ HB.out).mono ?_; rintro e w5 ⟨rfl, rfl⟩; skip)
              clear hs1 hs2 hs3
              go_wp2_with (first
                | (refine Cv.load_cells rfl 30 _ rfl bx 0 rfl #[.int .i64 (T : Int), .int .i64 (M : Int), .slice Av nv cv] _ (fun j v hv => by rw [Nat.zero_add]; exact HX.out.cell j hv) Tryd.underlying30 rfl (by kernel_rfl) ?_; skip)
                | (go_at_call 19; refine (Is_any _ sb bo bw T M (j + 1) _ HS.out T M _ HP.out (by have := HLL.out; omega)).mono ?_; rintro e wz ⟨rfl, hb⟩; skip; have HSx := Lib.hid (HS.out.below hb); clear HS; have HS := HSx; clear HSx; have HXx := Lib.hid (HX.out.below hb HX.out.lt); clear HX; have HX := HXx; clear HXx; have HPx := Lib.hid (HP.out.below hb); clear HP; have HP := HPx; clear HPx; have HBx := Lib.hid (HB.out.trans (Below.mono hb HB.out.size)); clear HB; have HB := HBx; clear HBx; clear hb))
              go_roundw
              case rel =>
                first
                  | exact ⟨j + 1, L, _, _, _, by omega, by omega, by go_num, HS.out, HX.out, HP.out, HLL.out, HB.out⟩
                  | ((repeat apply Exists.intro); refine ⟨?_, rfl⟩; exact ⟨j + 1, L, _, _, _, by omega, by omega, by go_num, HS.out, HX.out, HP.out, HLL.out, HB.out⟩)
              case measure => (first | (simp [intOf]; done) | (simp [intOf]; omega))
          · have hk1b : (q.1 == 1) = false := by rw [beq_eq_false_iff_ne]; exact hk1
            have hk2b : (q.1 == 2) = false := by rw [beq_eq_false_iff_ne]; exact hk2
            have HRL := Lib.hid (show ∀ W v, PS W v L → Calls Tryd.prog 12 #[.agg #[.int .i64 (T : Int), .int .i64 (M : Int), v], .agg (bytesV key)] W fun e w' => e = .returned (.string (strB ((whoOf L key).getD []))) ∧ Below W.heap.size W w' from fun W v hW => RLookup_any W T M v L hW (by have := HLN.out; omega) key hkl)
            generalize hwho : strB ((whoOf L key).getD []) = whs at *
            have c0 := HA.out.cell 0 (v := .int .i64 q.1) rfl
            go_upto_region 12 with (first
              | (refine Cv.load_cells rfl 30 _ rfl bx 0 rfl #[.int .i64 (T : Int), .int .i64 (M : Int), .slice Av nv cv] _ (fun j v hv => by rw [Nat.zero_add]; exact HX.out.cell j hv) Tryd.underlying30 rfl (by kernel_rfl) ?_; skip)
              | (refine Cv.load_cells rfl 34 _ rfl bk 0 rfl (bytesV key) _ (Cv.Bytes.of_blk HK.out).cells Tryd.underlying34 rfl (by rw [HVK.out]; kernel_rfl) ?_; skip)
              | (go_at_call 12; refine (HRL.out _ _ HP.out).mono ?_; rintro e w1 ⟨rfl, hb⟩; skip; have HSx := Lib.hid (HS.out.below hb); clear HS; have HS := HSx; clear HSx; have HXx := Lib.hid (HX.out.below hb HX.out.lt); clear HX; have HX := HXx; clear HXx; have HPx := Lib.hid (HP.out.below hb); clear HP; have HP := HPx; clear HPx; have HBx := Lib.hid (HB.out.trans (Below.mono hb HB.out.size)); clear HB; have HB := HBx; clear HBx; have HAx := Lib.hid (HA.out.below hb HA.out.lt); clear HA; have HA := HAx; clear HAx; have HKx := Lib.hid (HK.out.below hb HK.out.lt); clear HK; have HK := HKx; clear HKx; clear hb))
            have c0 := HA.out.cell 0 (v := .int .i64 q.1) rfl
            have c2 := HA.out.cell 2 (v := .string q.2.2) rfl
            obtain ⟨t, ht⟩ : ∃ t, (q.2.2.extract 0 70).data.toList = t := ⟨_, rfl⟩
            have HTL := Lib.hid (show t.length ≤ 70 by rw [← ht, Array.length_toList]; show (q.2.2.extract 0 70).size ≤ 70; rw [ByteArray.size_extract]; omega)
            have HCT := Lib.hid (show ∀ W : World, Calls Tryd.prog 7 #[.string q.2.2, .int .i64 70] W fun e w' => e = .returned (.string (strB t)) ∧ W = w' from fun W => by have := Cut16 W q.2.2 70 (by decide); rw [← ht]; exact this)
            clear ht
            go_upto_region 14 with (go_at_call 7; refine (HCT.out _).mono ?_; rintro e w2 ⟨rfl, rfl⟩; skip)
            clear c0 c2
            have HCD := Lib.hid (fun W (hW : Below w.heap.size w W) => show Calls Tryd.prog 16 #[Ei.evA a (addC T M L t key)] W fun e w' => e = .returned (.int .i64 ((addC T M L t key : Nat) : Int)) ∧ W = w' from Ei.Code_any W a (hE.below hW) (addC T M L t key) (addC_le _ _ _ _ _))
            have HADD := Lib.hid (fun W (hS : IsSt W sb bo bw T M j L) (hW : Below w.heap.size w W) => Add_any W sb bo bw T M j L hS t (by have := HTL.out; omega) key hkl a (hE.below hW) (by omega) HTM.out)
            have HRAD := Lib.hid (fun W v (hP : PS W v L) => RAdd_any W T M v L hP HGD.out (by have := HLN.out; omega) t (by have := HTL.out; omega) key hkl)
            have HLL := Lib.hid (show (addL T M L t key).length ≤ j + 1 by have := addL_len T M L t key; have := HLN.out; omega)
            generalize hLN : addL T M L t key = LN at *
            generalize hcc : addC T M L t key = cc at *
            generalize hn2 : LN.length = n2 at *
            clear hcc hLN
            go_upto_region 15 with (first
              | (refine Cv.load_cells rfl 30 _ rfl bx 0 rfl #[.int .i64 (T : Int), .int .i64 (M : Int), .slice Av nv cv] _ (fun j v hv => by rw [Nat.zero_add]; exact HX.out.cell j hv) Tryd.underlying30 rfl (by kernel_rfl) ?_; skip)
              | (refine Cv.load_cells rfl 34 _ rfl bk 0 rfl (bytesV key) _ (Cv.Bytes.of_blk HK.out).cells Tryd.underlying34 rfl (by rw [HVK.out]; kernel_rfl) ?_; skip)
              | (go_at_call 17; refine (HRAD.out _ _ HP.out).mono ?_; rintro e w4 ⟨v4, rfl, hp, hb⟩; have HBY := Lib.hid (show bo < w4.heap.size ∧ bw < w4.heap.size from ⟨Nat.lt_of_lt_of_le HS.out.ltO hb.size, Nat.lt_of_lt_of_le HS.out.ltW hb.size⟩); obtain ⟨A2, c2, hv4⟩ := (show ∃ A c, v4 = .slice A n2 c from by obtain ⟨A2, c2, h1, _⟩ := hp; exact ⟨A2, c2, by rw [h1, hn2]⟩); subst hv4; skip; have HSx := Lib.hid (HS.out.below hb); clear HS; have HS := HSx; clear HSx; have HXx := Lib.hid (HX.out.below hb HX.out.lt); clear HX; have HX := HXx; clear HXx; have HPx := Lib.hid (HP.out.below hb); clear HP; have HP := HPx; clear HPx; have HBx := Lib.hid (HB.out.trans (Below.mono hb HB.out.size)); clear HB; have HB := HBx; clear HBx; have HKx := Lib.hid (HK.out.below hb HK.out.lt); clear HK; have HK := HKx; clear HKx; have HP2 := Lib.hid hp; clear hp hb)
              | (refine Rg.store_fresh rfl 30 _ _ rfl #[.int .i64 (T : Int), .int .i64 (M : Int), .slice A2 n2 c2] _ 30 rfl rfl (by kernel_rfl) rfl (by simp [Value.oneCell']) ?_; intro V hV hbV; have HSx := Lib.hid (HS.out.below hbV); clear HS; have HS := HSx; clear HSx; have HXx := Lib.hid (HX.out.below hbV HX.out.lt); clear HX; have HX := HXx; clear HXx; have HPx := Lib.hid (HP.out.below hbV); clear HP; have HP := HPx; clear HPx; have HP2x := Lib.hid (HP2.out.below hbV); clear HP2; have HP2 := HP2x; clear HP2x; have HBx := Lib.hid (HB.out.trans (Below.mono hbV HB.out.size)); clear HB; have HB := HBx; clear HBx; have HKx := Lib.hid (HK.out.below hbV HK.out.lt); clear HK; have HK := HKx; clear HKx; have HY := Lib.hid hV; clear hV hbV))
            generalize hby : w4.heap.size = bY at *
            go_upto_region 17 with (first
              | (refine Cv.load_cells rfl 34 _ rfl bk 0 rfl (bytesV key) _ (Cv.Bytes.of_blk HK.out).cells Tryd.underlying34 rfl (by rw [HVK.out]; kernel_rfl) ?_; skip)
              | (go_at_call 18; refine (HADD.out _ HS.out HB.out).mono ?_; rintro e w5 ⟨rfl, hs, hu⟩; skip; have hmp := HS.out.isMaps; have HP2x := Lib.hid (HP2.out.maps hu hmp); clear HP2; have HP2 := HP2x; clear HP2x; have HXx := Lib.hid (upd_blk HX.out hu (by have := HNB.out; simp; omega)); clear HX; have HX := HXx; clear HXx; have HYx := Lib.hid (upd_blk HY.out hu (by have := HBY.out; simp; omega)); clear HY; have HY := HYx; clear HYx; have HBx := Lib.hid (upd_below HB.out hu (by have := HNB.out; intro x hx; simp at hx; omega) HB.out.size); clear HB; have HB := HBx; clear HBx; clear HS; have HS := Lib.hid hs; clear hs hu hmp)
              | (go_at_call 16; refine (HCD.out _ HB.out).mono ?_; rintro e w6 ⟨rfl, rfl⟩; skip))
            clear HP
            have HP := HP2
            clear HP2
            go_upto_region 26 with (first
              | (refine Cv.load_cells rfl 30 _ rfl bY 0 rfl #[.int .i64 (T : Int), .int .i64 (M : Int), .slice A2 n2 c2] _ (fun j v hv => by rw [Nat.zero_add]; exact HY.out.cell j hv) Tryd.underlying30 rfl (by kernel_rfl) ?_; skip)
              | (refine Cv.store_blk rfl 30 _ _ rfl bx #[.int .i64 (T : Int), .int .i64 (M : Int), .slice A2 n2 c2] #[.int .i64 (T : Int), .int .i64 (M : Int), .slice Av nv cv] 30 rfl rfl HX.out (by kernel_rfl) rfl (by simp [Value.oneCell']) ?_; intro V hV hgV; have HSx := Lib.hid (HS.out.small HX.out (by show 3 < 32; decide) hgV HSX.out); clear HS; have HS := HSx; clear HSx; have HPx := Lib.hid (HP.out.small HX.out (by show 3 < 32; decide) hgV); clear HP; have HP := HPx; clear HPx; have HBx := Lib.hid (HB.out.grown hgV HB.out.size (fun i hi => by cases hi; have := HNB.out; omega)); clear HB; have HB := HBx; clear HBx; clear HX; have HX := Lib.hid hV; clear hV hgV))
            go_wp2_with (first
              | (refine Cv.load_cells rfl 30 _ rfl bx 0 rfl #[.int .i64 (T : Int), .int .i64 (M : Int), .slice A2 n2 c2] _ (fun j v hv => by rw [Nat.zero_add]; exact HX.out.cell j hv) Tryd.underlying30 rfl (by kernel_rfl) ?_; skip)
              | (go_at_call 19; refine (Is_any _ sb bo bw T M (j + 1) _ HS.out T M _ HP.out (by have := HLL.out; omega)).mono ?_; rintro e wz ⟨rfl, hb⟩; skip; have HSx := Lib.hid (HS.out.below hb); clear HS; have HS := HSx; clear HSx; have HXx := Lib.hid (HX.out.below hb HX.out.lt); clear HX; have HX := HXx; clear HXx; have HPx := Lib.hid (HP.out.below hb); clear HP; have HP := HPx; clear HPx; have HBx := Lib.hid (HB.out.trans (Below.mono hb HB.out.size)); clear HB; have HB := HBx; clear HBx; clear hb))
            have HLx := Lib.hid (show LN.length ≤ j + 1 by rw [hn2]; exact HLL.out)
            clear HLL
            have HLL := HLx
            clear HLx
            go_roundw
            case rel =>
              first
                | exact ⟨j + 1, LN, _, _, _, by omega, by omega, by go_num, HS.out, HX.out, HP.out, HLL.out, HB.out⟩
                | ((repeat apply Exists.intro); refine ⟨?_, rfl⟩; exact ⟨j + 1, LN, _, _, _, by omega, by omega, by go_num, HS.out, HX.out, HP.out, HLL.out, HB.out⟩)
            case measure => (first | (simp [intOf]; done) | (simp [intOf]; omega))
      · have hd2 : decide (j < 120) = false := by simp; omega
        have hd2i : decide ((j : Int) < 120) = false := by simp; omega
        go_wp2
        go_ret
        exact ⟨rfl, HB.out⟩
    · have hd1 : decide (j < n) = false := by simp; omega
      have hd1i : decide ((j : Int) < (n : Int)) = false := by simp; omega
      go_wp2
      go_ret
      exact ⟨rfl, HB.out⟩
end Go.Proofs.YtgdbplciepiinaaDoor.St
