/- What is spread: of the program and of the reference. -/
import Derived.Test.YtoehmjkgjleaaaaDoorHmacSame
set_option linter.unusedVariables false
set_option linter.unusedSimpArgs false
namespace Go.Proofs.YtoehmjkgjleaaaaDoor.Sha
open Go.RowKit Go.Proofs.YtoehmjkgjleaaaaDoor.Cl Go.Proofs.YtoehmjkgjleaaaaDoor.Cv Go.Proofs.YtoehmjkgjleaaaaDoor.Ow
/-- the k-th sum -/
def spT (key label : List UInt8) : Nat → List UInt8
  | 0 => []
  | k + 1 => hmacL key (spT key label k ++ label ++ [UInt8.ofNat (k + 1)])
/-- the first k sums -/
def spO (key label : List UInt8) : Nat → List UInt8
  | 0 => []
  | k + 1 => spO key label k ++ spT key label (k + 1)
theorem spT_length (key label : List UInt8) (k : Nat) : (spT key label k).length ≤ 32 := by
  cases k with
  | zero => exact Nat.zero_le _
  | succ k => exact Nat.le_of_eq (hmacL_length _ _)
theorem spO_length (key label : List UInt8) (k : Nat) : (spO key label k).length = 32 * k := by
  induction k with
  | zero => rfl
  | succ k ih => rw [spO, List.length_append, ih, spT, hmacL_length]; omega
theorem spO_prefix (key label : List UInt8) (k j : Nat) : (spO key label (k + j)).take (32 * k) = spO key label k := by
  induction j with
  | zero => exact List.take_of_length_le (Nat.le_of_eq (spO_length _ _ _))
  | succ j ih =>
    rw [← Nat.add_assoc, spO, List.take_append_of_le_length (by rw [spO_length]; omega)]
    exact ih
/-- so many bytes -/
@[irreducible] def spreadL (key label : List UInt8) (n : Nat) : List UInt8 := (spO key label ((n + 31) / 32)).take n
theorem spreadL_length (key label : List UInt8) (n : Nat) : (spreadL key label n).length = n := by
  unfold spreadL; rw [List.length_take, spO_length]; omega
theorem spreadL_prefix (key label : List UInt8) (n m : Nat) : (spreadL key label (n + m)).take n = spreadL key label n := by
  unfold spreadL
  rw [List.take_take, Nat.min_eq_left (by omega)]
  have e : (n + m + 31) / 32 = (n + 31) / 32 + ((n + m + 31) / 32 - (n + 31) / 32) := by omega
  rw [e, ← spO_prefix key label ((n + 31) / 32) ((n + m + 31) / 32 - (n + 31) / 32), List.take_take, Nat.min_eq_left (by omega)]
theorem Rd_three (w : World) (T : TypeId) (x y z : Value) : Rd (w.alloc (.cells #[x, y, z] T)) (some ⟨w.heap.size, 0, none⟩) [x, y, z] := fun j v hj => by
  match j, hj with
  | 0, hj => simp at hj; subst hj; exact ⟨_, 0, rfl, by simp, (Rg.Blk.new w _ _).cell 0 rfl⟩
  | 1, hj => simp at hj; subst hj; exact ⟨_, 0, rfl, by simp, (Rg.Blk.new w _ _).cell 1 rfl⟩
  | 2, hj => simp at hj; subst hj; exact ⟨_, 0, rfl, by simp, (Rg.Blk.new w _ _).cell 2 rfl⟩
theorem byte_mod (i : Nat) : ((i : Int) % 256) = ((UInt8.ofNat i).toNat : Int) := by rw [UInt8.toNat_ofNat', Int.natCast_emod]; rfl
theorem builder_below {B b : Nat} {l : List Value} {w w' : World} (h : Lib.IsBuilder 47 5 B b l w) (hb : Below w.heap.size w w') : Lib.IsBuilder 47 5 B b l w' := by
  have at_ : ∀ p, Lib.BuilderAt 47 5 B b p l w → Lib.BuilderAt 47 5 B b p l w' := fun p h => by
    have hlt := h.lt
    obtain ⟨hB, v, hbk, hown, hne⟩ := h
    exact ⟨hB, v, (hb.block b hlt).trans hbk, World.ownsRow.kept hown (row := none) ⟨hb.os, hb.tape, hb.output, hb.size, fun k hk _ => hb.block k hk⟩ (by cases hv : v.ownBlock <;> simp), hne⟩
  rcases h with h | h
  · exact .inl (at_ _ h)
  · exact .inr (at_ _ h)
theorem strCells_bv (s : ByteArray) : Lib.strCells s = bv s.data.toList := rfl
set_option maxRecDepth 20000 in
set_option maxHeartbeats 2000000 in
theorem Spread_any (w : World) (key label : ByteArray) (n : Int) (m : Nat) (hm : max 0 (min n 8160) = (m : Int)) (hk : key.size ≤ 1000000) (hlb : label.size ≤ 1000) (hT : Tables w) :
    Calls Tryd.prog 22 #[.string key, .string label, .int .i64 n] w fun e w' => e = .returned (.string (mkS (spreadL key.data.toList label.data.toList m))) ∧ Below w.heap.size w w' := by
  have HT := Lib.hid hT
  have hm8 : m ≤ 8160 := by omega
  obtain ⟨p, hp⟩ : ∃ p, min n 8160 = p := ⟨_, rfl⟩
  rw [hp] at hm
  have HU := Lib.hid (Bu.fresh w)
  have HBU := Lib.hid (show Below w.heap.size w (w.alloc (.cells #[.pointer none, .slice none 0 0] 47)) from (Below.refl _ _).alloc (Nat.le_refl _) _)
  have HLL := Lib.hid (show label.data.toList.length = label.size from Array.length_toList)
  clear hT
  go_enter Tryd.func22, Tryd.ntmps22
  go_wp2_with fail
  clear hp hm
  go_loopw [8, 9, 10] (fun l i _ wr => ∃ (k : Nat) (t : ByteArray), 32 * k < m + 32 ∧ i = .int .i64 ((k + 1 : Nat) : Int) ∧ l = .string t ∧ t.data.toList = spT key.data.toList label.data.toList k ∧ Lib.IsBuilder 47 5 w.heap.size w.heap.size (bv (spO key.data.toList label.data.toList k)) wr ∧ Below w.heap.size w wr) (fun _ i _ _ => (8300 - intOf i).toNat)
  case atStart => exact ⟨0, _, by omega, rfl, rfl, rfl, HU.out, HBU.out⟩
  case round =>
    obtain ⟨k, t, hk32, rfl, rfl, ht, hU, hb⟩ := hrel
    have HU1 := Lib.hid hU
    have HB1 := Lib.hid hb
    have HTt := Lib.hid ht
    have HTr := Lib.hid (HT.out.below hb HT.out.size)
    have HOL := Lib.hid (show (bv (spO key.data.toList label.data.toList k)).length = 32 * k by rw [bv_length, spO_length])
    have hszb := hb.size
    clear hU hb ht HU HBU
    by_cases hgo : 32 * k < m
    · have hd : decide (32 * k < m) = true := by rw [decide_eq_true_eq]; exact hgo
      have hi : (32 * (k : Int)) < m := by omega
      obtain ⟨c, hc⟩ : ∃ c : UInt8, UInt8.ofNat (k + 1) = c := ⟨_, rfl⟩
      have HC := Lib.hid (show (k : Int) + 1 = (c.toNat : Int) by rw [← hc, UInt8.toNat_ofNat']; omega)
      obtain ⟨d, hd'⟩ : ∃ d, spT key.data.toList label.data.toList (k + 1) = d := ⟨_, rfl⟩
      have hdl : d.length = 32 := by rw [← hd', spT, hmacL_length]
      have HDL := Lib.hid hdl
      have HJ := Lib.hid (show (Jo.joined [t, label, mkS [c]]).data.toList = spT key.data.toList label.data.toList k ++ label.data.toList ++ [c] by rw [Jo.joined_list]; simp [HTt.out, mkS_list])
      have HJS := Lib.hid (show (Jo.joined [t, label, mkS [c]]).size ≤ 100000 by
        have := congrArg List.length HJ.out
        have h32 := spT_length key.data.toList label.data.toList k
        rw [List.length_append, List.length_append, Array.length_toList, HLL.out] at this
        have e : (Jo.joined [t, label, mkS [c]]).data.size = (Jo.joined [t, label, mkS [c]]).size := rfl
        simp at this; omega)
      have HD := Lib.hid (show hmacL key.data.toList (Jo.joined [t, label, mkS [c]]).data.toList = d by rw [HJ.out, ← hd', ← hc]; rfl)
      have HZ1 := Lib.hid (show (bytesV d).size = 32 by rw [bytesV_size, hdl])
      have HON := Lib.hid (show bv (spO key.data.toList label.data.toList (k + 1)) = bv (spO key.data.toList label.data.toList k) ++ bv d by rw [spO, hd', bv_append])
      have HD2 := Lib.hid hd'
      have HMK := Lib.hid (show (⟨d.toArray⟩ : ByteArray) = mkS d from rfl)
      have HMS := Lib.hid (show (mkS d).size = 32 by rw [mkS_size, hdl])
      have HC1 : Hid (mkS [c] = ⟨[c].toArray⟩) := Lib.hid rfl
      clear hc hd' hdl
      have tok := True.intro
      go_wp2_with (first
        | (go_at_call 32; refine (Tryd.Builder_Len _ _ _ _ HU1.out).mono ?_; rintro e w2 ⟨rfl, rfl⟩; skip; rw [HOL.out])
        | (have _t := tok; refine conv_string rfl 28 5 9 _ rfl Tryd.underlying28 Tryd.underlying5 Tryd.underlying9 w2.heap.size 0 1 1 [c] rfl rfl (one_byte _ _ _ _ HC.out) ?_; rw [← HC1.out]
           have HBc := Lib.hid (show Below w2.heap.size w2 (w2.alloc (.cells #[.int .u8 ((k : Int) + 1)] 5)) from (Below.refl _ _).alloc (Nat.le_refl _) _)
           have HRD := Lib.hid (show Rd ((w2.alloc (.cells #[.int .u8 ((k : Int) + 1)] 5)).alloc (.cells #[.string t, .string label, .string (mkS [c])] 9)) (some ⟨w2.heap.size + 1, 0, none⟩) ([t, label, mkS [c]].map Value.string) by
             have := Rd_three (w2.alloc (.cells #[.int .u8 ((k : Int) + 1)] 5)) 9 (.string t) (.string label) (.string (mkS [c]))
             rw [show (w2.alloc (.cells #[.int .u8 ((k : Int) + 1)] 5)).heap.size = w2.heap.size + 1 by simp] at this
             exact this)
           clear _t tok; have tok2 := True.intro)
        | (have _t := tok2; go_at_call 19
           refine (HSum_any _ key (some ⟨w2.heap.size + 1, 0, none⟩) 3 3 [t, label, mkS [c]] rfl HRD.out (by decide) HJS.out hk (HTr.out.below (HBc.out.alloc HBc.out.size _) HTr.out.size)).mono ?_; rintro e w3 ⟨rfl, hb3⟩; skip
           rw [HD.out]
           have HB3' := Lib.hid (show Below w2.heap.size w2 w3 from (HBc.out.alloc HBc.out.size _).trans (hb3.mono (by simp; omega)))
           have HB3 := Lib.hid (HB1.out.trans (HB3'.out.mono hszb))
           have HU3 := Lib.hid (builder_below HU1.out HB3'.out)
           clear hb3 _t tok2; have tok3 := True.intro)
        | (have _t := tok3
           refine store_blk rfl 24 _ _ rfl w3.heap.size (bytesV d) _ 24 rfl rfl (Rg.Blk.new w3 _ _) (by rw [HZ1.out]; rfl) (by rw [HZ1.out]; rfl) (bytesV_one _) ?_
           intro V hV hgV
           have HV := Lib.hid hV
           have HBV' := Lib.hid (show Below w3.heap.size w3 V from ((Below.refl _ _).alloc (Nat.le_refl _) _).grown hgV (by simp) (fun k hk => by cases hk; exact Nat.le_refl _))
           have HBV := Lib.hid (HB3.out.trans (HBV'.out.mono HB3.out.size))
           have HUV := Lib.hid (builder_below HU3.out HBV'.out)
           clear hV hgV _t tok3; have tok4 := True.intro)
        | (have _t := tok4; refine conv_string rfl 28 5 9 _ rfl Tryd.underlying28 Tryd.underlying5 Tryd.underlying9 w3.heap.size 0 32 32 d rfl HDL.out (Bytes.of_blk HV.out) ?_; rw [HMK.out]; clear _t tok4)
        | (go_at_call 33; refine (Bu.writeString _ _ _ (mkS d) _ HUV.out (by rw [HOL.out, HMS.out]; omega) HBV.out.size).mono ?_; rintro e w5 ⟨rfl, hU5, hb5⟩; skip
           rw [strCells_bv, mkS_list, ← HON.out] at hU5
           have HU5 := Lib.hid hU5; have HB5 := Lib.hid (HBV.out.trans hb5); clear hU5 hb5))
      go_roundw
      case rel =>
        first
          | exact ⟨k + 1, mkS d, by omega, by go_num, rfl, by rw [mkS_list]; exact HD2.out.symm, .inr HU5.out, HB5.out⟩
          | ((repeat apply Exists.intro); refine ⟨?_, rfl⟩; exact ⟨k + 1, mkS d, by omega, by go_num, rfl, by rw [mkS_list]; exact HD2.out.symm, .inr HU5.out, HB5.out⟩)
      case measure => simp [intOf]; omega
    · have hd : ¬ 32 * k < m := hgo
      have hd2 : (m : Int) ≤ 32 * (k : Int) := by omega
      obtain ⟨x, hx⟩ : ∃ x, mkS (spO key.data.toList label.data.toList k) = x := ⟨_, rfl⟩
      have hxs : x.size = 32 * k := by rw [← hx, mkS_size, spO_length]
      have hI : (m : Int) ≤ (x.size : Int) := by omega
      have HR := Lib.hid (show x.extract 0 m = mkS (spreadL key.data.toList label.data.toList m) by
        have hkk : (m + 31) / 32 = k := by omega
        unfold spreadL; rw [hkk, ← hx]
        apply ByteArray.ext; apply Array.toList_inj.1; rw [extract_list0]; rfl)
      have HX := Lib.hid hx
      clear hx hxs
      go_wp2_with (first
        | (go_at_call 32; refine (Tryd.Builder_Len _ _ _ _ HU1.out).mono ?_; rintro e w2 ⟨rfl, rfl⟩; skip; rw [HOL.out])
        | (go_at_call 29; refine (Tryd.Builder_String_any _ _ _ _ HU1.out hszb).mono ?_; rintro e w7 ⟨rfl, hb7⟩; skip; rw [show (⟨(spO key.data.toList label.data.toList k).toArray⟩ : ByteArray) = x from HX.out]; have HB7 := Lib.hid (HB1.out.trans hb7); clear hb7))
      go_ret
      exact ⟨by rw [← HR.out]; rfl, HB7.out⟩
set_option maxRecDepth 20000 in
set_option maxHeartbeats 2000000 in
theorem RefSpread_any (w : World) (key label : ByteArray) (m : Nat) (hm8 : m ≤ 8160) (hk : key.size ≤ 1000000) (hlb : label.size ≤ 1000) :
    Calls Tryd.prog 23 #[.string key, .string label, .int .i64 m] w fun e w' => e = .returned (.string (mkS (spreadL key.data.toList label.data.toList m))) ∧ Below w.heap.size w w' := by
  have HLL := Lib.hid (show label.data.toList.length = label.size from Array.length_toList)
  go_enter Tryd.func23, Tryd.ntmps23
  go_wp2_with fail
  go_loopw [7, 8, 9] (fun o l i wr => ∃ (k : Nat) (x t : ByteArray), 32 * k < m + 32 ∧ i = .int .i64 ((k + 1 : Nat) : Int) ∧ o = .string x ∧ l = .string t ∧ x.data.toList = spO key.data.toList label.data.toList k ∧ t.data.toList = spT key.data.toList label.data.toList k ∧ Below w.heap.size w wr) (fun _ _ i _ => (8300 - intOf i).toNat)
  case atStart => exact ⟨0, _, _, by omega, rfl, rfl, rfl, rfl, rfl, Below.refl _ _⟩
  case round =>
    obtain ⟨k, x, t, hk32, rfl, rfl, rfl, hx, ht, hb⟩ := hrel
    have hxs : x.size = 32 * k := by have := congrArg List.length hx; rw [Array.length_toList, spO_length] at this; exact this
    have hts : t.size ≤ 32 := by have := congrArg List.length ht; rw [Array.length_toList] at this; have h2 := spT_length key.data.toList label.data.toList k; have e : t.data.size = t.size := rfl; omega
    have HB1 := Lib.hid hb
    have HXX := Lib.hid hx
    have HTt := Lib.hid ht
    have HXS := Lib.hid hxs
    have hxb : x.size ≤ 8200 := by omega
    clear hb hx ht
    by_cases hgo : 32 * k < m
    · have hd : decide (x.size < m) = true := by rw [decide_eq_true_eq]; omega
      have hi : (x.size : Int) < m := by omega
      obtain ⟨c, hc⟩ : ∃ c : UInt8, UInt8.ofNat (k + 1) = c := ⟨_, rfl⟩
      have HC := Lib.hid (show (k : Int) + 1 = (c.toNat : Int) by rw [← hc, UInt8.toNat_ofNat']; omega)
      obtain ⟨d, hd'⟩ : ∃ d, mkS (spT key.data.toList label.data.toList (k + 1)) = d := ⟨_, rfl⟩
      have hdl : d.size = 32 := by rw [← hd', mkS_size, spT, hmacL_length]
      have HDL := Lib.hid hdl
      have HD := Lib.hid (show mkS (hmacL key.data.toList (t ++ label ++ (⟨[c].toArray⟩ : ByteArray)).data.toList) = d by
        rw [bytes_append, bytes_append, HTt.out, ← hd', ← hc]; rfl)
      have HDT := Lib.hid (show d.data.toList = spT key.data.toList label.data.toList (k + 1) by rw [← hd']; rfl)
      have HXN := Lib.hid (show (x ++ d).data.toList = spO key.data.toList label.data.toList (k + 1) by rw [bytes_append, HXX.out, HDT.out]; rfl)
      have hq1 : ¬ 9223372036854775807 < t.size + label.size := by omega
      have hts2 : (t ++ label).size ≤ 1100 := by rw [ByteArray.size_append]; omega
      have hq2 : ¬ 9223372036854775807 < t.size + label.size + 1 := by omega
      have hq3 : ¬ 9223372036854775807 < (t ++ label).size + 1 := by omega
      have hq4 : ¬ 9223372036854775807 < x.size + d.size := by omega
      have HMS := Lib.hid (show (t ++ label ++ (⟨[c].toArray⟩ : ByteArray)).size ≤ 100000 by rw [ByteArray.size_append]; show (t ++ label).size + 1 ≤ _; omega)
      clear hc hd' hdl hxs
      go_wp2_with (first
        | (refine conv_string rfl 28 5 9 _ rfl Tryd.underlying28 Tryd.underlying5 Tryd.underlying9 wr.heap.size 0 1 1 [c] rfl rfl (one_byte _ _ _ _ HC.out) ?_
           have HBc := Lib.hid (show Below wr.heap.size wr (wr.alloc (.cells #[.int .u8 ((k : Int) + 1)] 5)) from (Below.refl _ _).alloc (Nat.le_refl _) _))
        | (go_at_call 20; refine (RefHSum_any _ key _ hk HMS.out).mono ?_; rintro e w3 ⟨rfl, hb3⟩; skip; rw [HD.out]
           have HB3 := Lib.hid (HB1.out.trans ((HBc.out.trans (hb3.mono HBc.out.size)).mono HB1.out.size)); clear hb3))
      go_roundw
      case rel =>
        first
          | exact ⟨k + 1, _, _, by omega, by go_num, rfl, rfl, HXN.out, HDT.out, HB3.out⟩
          | ((repeat apply Exists.intro); refine ⟨?_, rfl⟩; exact ⟨k + 1, _, _, by omega, by go_num, rfl, rfl, HXN.out, HDT.out, HB3.out⟩)
      case measure => simp [intOf]; omega
    · have hd : ¬ x.size < m := by omega
      have hI : (m : Int) ≤ (x.size : Int) := by omega
      have HR := Lib.hid (show x.extract 0 m = mkS (spreadL key.data.toList label.data.toList m) by
        have hkk : (m + 31) / 32 = k := by omega
        unfold spreadL; rw [hkk, ← HXX.out]
        apply ByteArray.ext; apply Array.toList_inj.1; rw [extract_list0]; rfl)
      clear hxs
      go_wp2_with fail
      go_ret
      exact ⟨by rw [← HR.out]; rfl, HB1.out⟩
end Go.Proofs.YtoehmjkgjleaaaaDoor.Sha
