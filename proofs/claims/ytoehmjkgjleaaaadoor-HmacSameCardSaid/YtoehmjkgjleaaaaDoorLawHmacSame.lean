/- The law HmacSame: the walk. -/
import Derived.Test.YtoehmjkgjleaaaaDoorHmacAwake
set_option linter.unusedVariables false
set_option linter.unusedSimpArgs false
namespace Go.Proofs.YtoehmjkgjleaaaaDoor.Sha
open Go.RowKit Go.Proofs.YtoehmjkgjleaaaaDoor.Cl Go.Proofs.YtoehmjkgjleaaaaDoor.Cv Go.Proofs.YtoehmjkgjleaaaaDoor.Ow
variable {P : Program}
/-- a byte stored into a row of bytes of which only the cells are known -/
theorem store_cell {ops : Array Oper} {rest : List Oper} {o : Oper} {a : Act} {w : World} {Q : Exit → Act → World → Prop} (hgd : o.guard = none) (ty : TypeId) (x y : Operand) (ho : o.op = .store ty x y)
    {b j : Nat} {l : List UInt8} {v : UInt8} (hx : a.eval x = .pointer (some ⟨b, j, none⟩)) (hy : a.eval y = .int .u8 (v.toNat : Int)) (hu : P.underlying ty = some (.int .u8)) (hi : (P.info? ty).map (·.size) = some 1) (hR : Bytes w b 0 l)
    (hf : w.frozen? ⟨b, j, none⟩ = false) (hj : j < l.length)
    (h : ∀ w', Bytes w' b 0 (l.set j v) → w.grownBy w' (some b) → wpList P ops Q rest (a.put o.dst undef) w') : wpList P ops Q (o :: rest) a w :=
  wpList_plain hgd fun _ hK => by
    have hx' := hx
    have hy' := hy
    have hc := hR j l[j] (List.getElem?_eq_getElem hj)
    rw [Nat.zero_add] at hc
    simp [go_sem] at hx' hy'
    unfold Oper.wp execOp
    cases hq : P.info? ty with
    | none => simp [hq] at hi
    | some i =>
    have hs : i.size = 1 := by simpa [hq] using hi
    simp [ho, hx', hy', go_sem, hc, hf, hu, sizeOf, typeInfo, hq, hs]
    have hB : Bytes (w.setCell ⟨b, j, none⟩ (.int .u8 (v.toNat : Int))) b 0 (l.set j v) := by
      intro k x hk
      rw [Nat.zero_add]
      by_cases e : j = k
      · subst e
        rw [List.getElem?_set_self hj] at hk
        cases hk
        exact World.cell?_setCell_same (h := hc) ..
      · rw [List.getElem?_set_ne e] at hk
        have := hR k x hk
        rw [Nat.zero_add] at this
        exact (World.cell?_setCell_other (a := ⟨b, j, none⟩) (b := ⟨b, k, none⟩) (h := fun h => e (congrArg Addr.off h)) ..).trans this
    have := hK _ _ (h _ hB (grown_setCell w b j _))
    simpa [go_sem] using this
theorem flip_ne (c d : UInt8) (r : Nat) (hr : r < 8) (h : d = c ^^^ UInt8.ofNat (2 ^ r)) : d ≠ c := by
  intro e
  have h1 : UInt8.ofNat (2 ^ r) = 0 := by
    have h2 : c ^^^ UInt8.ofNat (2 ^ r) ^^^ c = c ^^^ c := by rw [← h, e]
    rw [UInt8.xor_comm c, UInt8.xor_assoc] at h2
    simpa using h2
  have h3 : ∀ r, r < 8 → UInt8.ofNat (2 ^ r) ≠ 0 := by decide
  exact h3 r hr h1
theorem set_ne (l : List UInt8) (j : Nat) (c d : UInt8) (hc : l[j]? = some c) (h : d ≠ c) : l ≠ l.set j d := by
  intro e
  have hj := (List.getElem?_eq_some_iff.1 hc).1
  have : (l.set j d)[j]? = some d := List.getElem?_set_self hj
  rw [← e, hc] at this
  exact h (Option.some.inj this).symm
theorem beq_lists (a b : ByteArray) (h : a.data.toList ≠ b.data.toList) : (a.toList == b.toList) = false := by
  rw [beq_eq_false_iff_ne, toList_data, toList_data]
  exact h
theorem pow_wrap (r : Nat) (h : r < 8) : IntKind.u8.wrap (2 ^ r) = (((UInt8.ofNat (2 ^ r)).toNat : Nat) : Int) := by
  have h3 : ∀ r, r < 8 → IntKind.u8.wrap (2 ^ r) = (((UInt8.ofNat (2 ^ r)).toNat : Nat) : Int) := by decide
  exact h3 r h
theorem and7 (n : Int) : ∃ r : Nat, r < 8 ∧ bits .and .i64 n 7 = (r : Int) := by
  have h127 : (BitVec.ofInt 64 7).toNat = 2 ^ 3 - 1 := by decide
  have key : (BitVec.ofInt 64 n &&& BitVec.ofInt 64 7).toNat = (n % ((2 ^ 64 : Nat) : Int)).toNat % 2 ^ 3 := by
    rw [BitVec.toNat_and, BitVec.toNat_ofInt, h127, Nat.and_two_pow_sub_one_eq_mod]
  refine ⟨(n % 8).toNat, by omega, ?_⟩
  show IntKind.i64.wrap ((BitVec.ofInt 64 n &&& BitVec.ofInt 64 7).toNat : Nat) = _
  rw [key, IntKind.wrap_i64]
  omega
set_option maxRecDepth 20000 in
set_option maxHeartbeats 2000000 in
theorem law_HmacSame (w : World) (a0 b0 : ByteArray) (n : Int) (hn : (Lit.int .i64 n).wf = true) (hT : Tables w) :
    Calls Tryd.prog 8 #[.string a0, .string b0, .int .i64 n] w fun e w' => e = .returned (.bool true) ∧ Below w.heap.size w w' := by
  have HT := Lib.hid hT
  have hnb := bounds_i64 hn
  have hnb1 : -9223372036854775808 ≤ n := by omega
  have hnb2 : n ≤ 9223372036854775807 := by omega
  have hks : (a0.extract 0 100).size ≤ 100 := by rw [ByteArray.size_extract]; omega
  have hls : (b0.extract 0 100).size ≤ 100 := by rw [ByteArray.size_extract]; omega
  have HLS := Lib.hid hls
  have tka := True.intro
  clear hT hls hn
  generalize ha' : a0.extract 0 100 = a at *
  generalize hb' : b0.extract 0 100 = b at *
  have HKS := Lib.hid hks
  have HCK := Lib.hid (show ∀ W : World, Calls Tryd.prog 11 #[.string a0, .int .i64 100] W fun e w' => e = .returned (.string a) ∧ W = w' from fun W => ha' ▸ Cut_any W a0 100 (by decide))
  have HCL := Lib.hid (show ∀ W : World, Calls Tryd.prog 11 #[.string b0, .int .i64 100] W fun e w' => e = .returned (.string b) ∧ W = w' from fun W => hb' ▸ Cut_any W b0 100 (by decide))
  clear ha' hb'
  have haa : (a.toList == a.toList) = true := beq_self_eq_true _
  have hax0 : (a.toList == (a ++ ⟨#[120]⟩).toList) = false := beq_lists _ _ (by
    rw [bytes_append]
    intro e
    have := congrArg List.length e
    rw [List.length_append] at this
    exact absurd this (by show ¬ _ = _ + 1; omega))
  obtain ⟨ax, hax⟩ : ∃ ax, a ++ ⟨#[120]⟩ = ax := ⟨_, rfl⟩
  have haxs : ax.size ≤ 101 := by rw [← hax, ByteArray.size_append]; show a.size + 1 ≤ 101; omega
  have HAX := Lib.hid haxs
  rw [hax] at hax0
  clear haxs
  have HS1 := Lib.hid (show ∀ W : World, Calls Tryd.prog 21 #[.string a, .string b] W fun e w' => e = .returned (.bool (a.toList == b.toList)) ∧ Below W.heap.size W w' from fun W => Same_any W a b (by have := HKS.out; omega) (by have := HLS.out; omega))
  have HS2 := Lib.hid (show ∀ W : World, Calls Tryd.prog 21 #[.string a, .string a] W fun e w' => e = .returned (.bool true) ∧ Below W.heap.size W w' from fun W => haa ▸ Same_any W a a (by have := HKS.out; omega) (by have := HKS.out; omega))
  have HS3 := Lib.hid (show ∀ W : World, Calls Tryd.prog 21 #[.string a, .string ax] W fun e w' => e = .returned (.bool false) ∧ Below W.heap.size W w' from fun W => hax0 ▸ Same_any W a ax (by have := HKS.out; omega) (by have := HAX.out; omega))
  clear hax0 haa
  obtain ⟨e0, he0⟩ : ∃ e0, (a.toList == b.toList) = e0 := ⟨_, rfl⟩
  have HS1 := Lib.hid (he0 ▸ HS1.out)
  by_cases hz : a.size = 0
  · have hz1 : ((a.size : Int) == 0) = true := by rw [beq_iff_eq]; omega
    cases e0
    all_goals
      go_enter Tryd.func8, Tryd.ntmps8
      go_wp2_with (first
        | (go_at_call 18; refine (hawake_any _ HT.out).mono ?_; rintro e w1 ⟨rfl, hb1⟩; skip; have HB1 := Lib.hid hb1; clear hb1)
        | (have _t := tka; go_at_call 11; refine (HCK.out _).mono ?_; rintro e w2 ⟨rfl, rfl⟩; clear _t tka; have tkb := True.intro)
        | (have _t := tkb; go_at_call 11; refine (HCL.out _).mono ?_; rintro e w2 ⟨rfl, rfl⟩; clear _t tkb; have tok := True.intro)
        | (have _t := tok; go_at_call 21; refine (HS1.out _).mono ?_; rintro e w3 ⟨rfl, hb3⟩; skip; have HB3 := Lib.hid (HB1.out.trans (hb3.mono HB1.out.size)); clear hb3 _t tok; have tok2 := True.intro)
        | (have _t := tok2; go_at_call 21; refine (HS2.out _).mono ?_; rintro e w4 ⟨rfl, hb4⟩; skip; have HB4 := Lib.hid (HB3.out.trans (hb4.mono HB3.out.size)); clear hb4 _t tok2; have tok3 := True.intro)
        | (have _t := tok3; go_at_call 21; refine (HS3.out _).mono ?_; rintro e w5 ⟨rfl, hb5⟩; skip; have HB5 := Lib.hid (HB4.out.trans (hb5.mono HB4.out.size)); clear hb5 _t tok3; have tok4 := True.intro))
      go_ret
      exact ⟨by simp, HB5.out⟩
  · have hz1 : ((a.size : Int) == 0) = false := by rw [beq_eq_false_iff_ne]; omega
    obtain ⟨q, hq⟩ : ∃ q, Int.tmod n (a.size : Int) = q := ⟨_, rfl⟩
    have hq1 : -(a.size : Int) < q := by
      rw [← hq]
      have := Int.lt_tmod_of_pos n (b := (a.size : Int)) (by omega)
      omega
    have hq2 : q < a.size := by rw [← hq]; exact Int.tmod_lt_of_pos n (by omega)
    obtain ⟨j, hj⟩ : ∃ j : Nat, (q + (a.size : Int)) % (a.size : Int) = (j : Int) := ⟨((q + (a.size : Int)) % (a.size : Int)).toNat, (Int.toNat_of_nonneg (Int.emod_nonneg _ (by omega))).symm⟩
    have hjl : j < a.size := by have := Int.emod_lt_of_pos (q + (a.size : Int)) (b := (a.size : Int)) (by omega); omega
    have hj2 : q % (a.size : Int) = (j : Int) := by rw [← hj, Int.add_emod_right]
    have hj3 : (q + (a.size : Int)).tmod (a.size : Int) = (j : Int) := by rw [Int.tmod_eq_emod_of_nonneg (by omega), hj]
    obtain ⟨r, hr8, hr⟩ := and7 n
    have hr0 : (0 : Int) ≤ r := by omega
    have hr1 : (r : Int) ≤ 8 := by omega
    have hw := pow_wrap r hr8
    have hc := get_l a j hjl
    have hlen : a.data.toList.length = a.size := Array.length_toList
    have HLX := Lib.hid (show j < a.data.toList.length by omega)
    generalize a[j] = c at *
    obtain ⟨d, hd'⟩ : ∃ d, c ^^^ UInt8.ofNat (2 ^ r) = d := ⟨_, rfl⟩
    have hxor : bits .xor .u8 (c.toNat : Int) ((UInt8.ofNat (2 ^ r)).toNat : Int) = ((d.toNat : Nat) : Int) := by rw [← hd']; exact xor_u8 _ _
    have hne := set_ne _ _ _ _ hc (flip_ne c d r hr8 hd'.symm)
    have hne2 : (a.toList == (mkS (a.data.toList.set j d)).toList) = false := beq_lists _ _ hne
    have hsl : (mkS (a.data.toList.set j d)).size ≤ 100 := by rw [mkS_size, List.length_set, hlen]; exact HKS.out
    have HLN := Lib.hid (show (a.data.toList.set j d).length = a.size by rw [List.length_set, hlen])
    have HMK := Lib.hid (show (⟨(a.data.toList.set j d).toArray⟩ : ByteArray) = mkS (a.data.toList.set j d) from rfl)
    obtain ⟨z, hz'⟩ : ∃ z, mkS (a.data.toList.set j d) = z := ⟨_, rfl⟩
    have HS4 := Lib.hid (show ∀ W : World, Calls Tryd.prog 21 #[.string a, .string z] W fun e w' => e = .returned (.bool false) ∧ Below W.heap.size W w' from fun W => hne2 ▸ hz' ▸ Same_any W a _ (by have := HKS.out; omega) (by omega))
    have HZ := Lib.hid (HMK.out.trans hz')
    generalize (UInt8.ofNat (2 ^ r)).toNat = u at *
    have HCC := Lib.hid hc
    clear hd' hne hne2 hsl hz' HMK hlen hc
    cases e0
    all_goals
      go_enter Tryd.func8, Tryd.ntmps8
      go_wp2_with (first
        | (go_at_call 18; refine (hawake_any _ HT.out).mono ?_; rintro e w1 ⟨rfl, hb1⟩; skip; have HB1 := Lib.hid hb1; clear hb1)
        | (have _t := tka; go_at_call 11; refine (HCK.out _).mono ?_; rintro e w2 ⟨rfl, rfl⟩; clear _t tka; have tkb := True.intro)
        | (have _t := tkb; go_at_call 11; refine (HCL.out _).mono ?_; rintro e w2 ⟨rfl, rfl⟩; clear _t tkb; have tok := True.intro)
        | (have _t := tok; go_at_call 21; refine (HS1.out _).mono ?_; rintro e w3 ⟨rfl, hb3⟩; skip; have HB3 := Lib.hid (HB1.out.trans (hb3.mono HB1.out.size)); clear hb3 _t tok; have tok2 := True.intro)
        | (have _t := tok2; go_at_call 21; refine (HS2.out _).mono ?_; rintro e w4 ⟨rfl, hb4⟩; skip; have HB4 := Lib.hid (HB3.out.trans (hb4.mono HB3.out.size)); clear hb4 _t tok2; have tok3 := True.intro)
        | (have _t := tok3; go_at_call 21; refine (HS3.out _).mono ?_; rintro e w5 ⟨rfl, hb5⟩; skip; have HB5 := Lib.hid (HB4.out.trans (hb5.mono HB4.out.size)); clear hb5 _t tok3; have tok4 := True.intro)
        | (have _t := tok4
           refine conv_bytes rfl 9 28 5 _ rfl rfl Tryd.underlying9 Tryd.underlying28 Tryd.underlying5 ?_
           intro X cap hX hfX hbX hsX hcX
           have hcell := hX j c HCC.out
           rw [Nat.zero_add] at hcell
           have HX := Lib.hid hX
           have HFX := Lib.hid (hfX j hjl)
           have HBX := Lib.hid (HB5.out.trans (hbX.mono HB5.out.size))
           have HSX := Lib.hid hsX
           have HSZ := Lib.hid (show w5.heap.size < X.heap.size by omega)
           have HCL := Lib.hid (fun t : Rg.Later X.heap.size X => (t.cell w5.heap.size j HSZ.out).trans hcell)
           clear hX hfX hbX hsX hcell _t tok4; have tok5 := True.intro))
      try simp only [Act.put]
      have hc := HCL.out
      refine Rg.wp_region_later X.heap.size 18 (by kernel_rfl) (by kernel_rfl) ?_
      simp only [List.take_succ_cons, List.take_zero, List.drop_succ_cons, List.drop_zero]
      repeat (go_big_quiet_step (fail))
      refine wpQuiet_nil ?_
      rintro _ ⟨t, rfl⟩
      clear hc
      go_wp2_with (first
        | (have _t := tok5
           refine store_cell rfl 5 _ _ rfl rfl rfl Tryd.underlying5 (by kernel_rfl) (HX.out.below t.is HSZ.out) ((t.frozen w5.heap.size j HSZ.out).trans HFX.out) HLX.out ?_
           intro Y hY hgY
           have HY := Lib.hid hY
           have HBT := Lib.hid (HBX.out.trans (t.is.mono HBX.out.size))
           have HBY := Lib.hid (HBT.out.grown hgY HBT.out.size (fun k hk => by cases hk; exact HB5.out.size))
           clear hY hgY _t tok5; have tok6 := True.intro)
        | (have _t := tok6
           refine conv_string rfl 28 5 9 _ rfl Tryd.underlying28 Tryd.underlying5 Tryd.underlying9 w5.heap.size 0 a.size cap (a.data.toList.set j d) rfl HLN.out HY.out ?_
           rw [HZ.out]
           clear _t tok6; have tok7 := True.intro)
        | (have _t := tok7; go_at_call 21; refine (HS4.out _).mono ?_; rintro e w6 ⟨rfl, hb6⟩; skip; have HB6 := Lib.hid (HBY.out.trans (hb6.mono HBY.out.size)); clear hb6 _t tok7))
      go_ret
      exact ⟨by simp, HB6.out⟩
end Go.Proofs.YtoehmjkgjleaaaaDoor.Sha
