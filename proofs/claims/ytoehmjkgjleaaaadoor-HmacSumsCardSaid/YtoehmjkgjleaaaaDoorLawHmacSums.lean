/- The law HmacSums: the walk. -/
import Derived.Test.YtoehmjkgjleaaaaDoorHmacAwake
set_option linter.unusedVariables false
set_option linter.unusedSimpArgs false
namespace Go.Proofs.YtoehmjkgjleaaaaDoor.Sha
open Go.RowKit Go.Proofs.YtoehmjkgjleaaaaDoor.Cl Go.Proofs.YtoehmjkgjleaaaaDoor.Cv Go.Proofs.YtoehmjkgjleaaaaDoor.Ow
/-- the first k texts, cut -/
def cutT (xs : List ByteArray) (k : Nat) : List ByteArray := (xs.take k).map fun x => x.extract 0 60
theorem cutT_succ (xs : List ByteArray) (k : Nat) (x : ByteArray) (h : xs[k]? = some x) : cutT xs (k + 1) = cutT xs k ++ [x.extract 0 60] := by
  unfold cutT
  rw [List.take_add_one, h]
  simp
theorem cutT_length (xs : List ByteArray) (k : Nat) (h : k ≤ xs.length) : (cutT xs k).length = k := by
  unfold cutT; rw [List.length_map, List.length_take]; omega
theorem joined_push1 (xs : List ByteArray) (s : ByteArray) : Jo.joined (xs ++ [s]) = Jo.joined xs ++ s := by
  apply ByteArray.ext
  apply Array.toList_inj.1
  rw [Jo.joined_list, bytes_append, Jo.joined_list, List.flatMap_append]
  simp
theorem cutT_size (xs : List ByteArray) (k : Nat) (h : k ≤ xs.length) : (Jo.joined (cutT xs k)).size ≤ 60 * k := by
  induction k with
  | zero => rw [joined_size]; simp [cutT]
  | succ k ih =>
    rw [cutT_succ xs k _ (List.getElem?_eq_getElem (by omega)), joined_push1, ByteArray.size_append, ByteArray.size_extract]
    have := ih (by omega)
    omega
theorem map_push1 (xs : List ByteArray) (s : ByteArray) : xs.map Value.string ++ [.string s] = (xs ++ [s]).map Value.string := by simp
theorem rd_of_owns {w : World} {B : Nat} {E : TypeId} {v : Value} {xs : List ByteArray} (h : Owns w B E v (xs.map Value.string)) : ∃ A c, v = .slice A xs.length c ∧ Rd w A (xs.map Value.string) := by
  obtain ⟨A, c, hv, hR, _⟩ := h.form
  rw [List.length_map] at hv
  exact ⟨A, c, hv, hR⟩
set_option maxRecDepth 20000 in
set_option maxHeartbeats 2000000 in
theorem law_HmacSums (w : World) (key0 : ByteArray) (A : Option Addr) (c : Nat) (xs : List ByteArray) (hR : Rd w A (xs.map Value.string)) (hc : xs.length ≤ c) (hm : c ≤ maxLen) (hT : Tables w) :
    Calls Tryd.prog 7 #[.string key0, .slice A xs.length c] w fun e w' => e = .returned (.bool true) ∧ Below w.heap.size w w' := by
  have HT := Lib.hid hT
  have HR := Lib.hid hR
  obtain ⟨n, hn⟩ : ∃ n, xs.length = n := ⟨_, rfl⟩
  have hnm : n ≤ 9223372036854775807 := by unfold maxLen at hm; omega
  rw [hn]
  have HN := Lib.hid hn
  have hks : (key0.extract 0 150).size ≤ 1000000 := by rw [ByteArray.size_extract]; omega
  have HKS := Lib.hid hks
  clear hT hR hn hm hc hks
  go_enter Tryd.func7, Tryd.ntmps7
  go_wp2_with (first
    | (go_at_call 18; refine (hawake_any _ HT.out).mono ?_; rintro e w00 ⟨rfl, hb0⟩; skip; have HB00 := Lib.hid hb0; clear hb0)
    | (go_at_call 11; refine (Cut_any _ key0 150 (by decide)).mono ?_; rintro e w1' ⟨rfl, rfl⟩; skip; generalize key0.extract 0 150 = key at *))
  have hE0 : (⟨#[]⟩ : ByteArray) = Jo.joined (cutT xs 0) := by unfold Jo.joined cutT; rfl
  have HE0 := Lib.hid hE0
  clear hE0
  go_loopw [5, 6, 7] (fun a v i wr => ∃ k : Nat, k ≤ n ∧ k ≤ 8 ∧ i = .int .i64 k ∧ a = .string (Jo.joined (cutT xs k)) ∧ Owns wr w.heap.size 9 v ((cutT xs k).map Value.string) ∧ Below w.heap.size w wr) (fun _ _ i _ => 10 - (intOf i).toNat)
  case atStart => exact ⟨0, Nat.zero_le _, by decide, rfl, by rw [← HE0.out], Owns.nil _ _ _, HB00.out⟩
  case round =>
    obtain ⟨k, hk, hk10, rfl, rfl, hO, hb⟩ := hrel
    have hjs := cutT_size xs k (by rw [HN.out]; exact hk)
    have hll := cutT_length xs k (by rw [HN.out]; exact hk)
    have HLL := Lib.hid hll
    have HO := Lib.hid hO
    have HB := Lib.hid hb
    have hszb := hb.size
    clear hO hb hll HB00
    by_cases hgo : k < n ∧ k < 8
    case pos =>
      obtain ⟨hkn, hkt⟩ := hgo
      have hd1 : decide (k < n) = true := by simp; exact hkn
      have hd2 : decide ((k : Int) < 8) = true := by simp; omega
      obtain ⟨b, o, rfl, hbl, hcell⟩ := HR.out.at_ (j := k) (by rw [List.length_map, HN.out]; exact hkn)
      rw [List.getElem_map] at hcell
      have hx : xs[k]? = some (xs[k]'(by rw [HN.out]; exact hkn)) := List.getElem?_eq_getElem _
      generalize xs[k]'(by rw [HN.out]; exact hkn) = x at *
      have HS := Lib.hid (cutT_succ xs k x hx)
      have hcw := (HB.out.cell (p := ⟨b, o + k, none⟩) hbl).trans hcell
      have HMS := Lib.hid (map_push1 (cutT xs k) (x.extract 0 60))
      have HJP := Lib.hid (joined_push1 (cutT xs k) (x.extract 0 60))
      have hik : (k : Int) < n := by omega
      have hxe : (x.extract 0 60).size ≤ 60 := by rw [ByteArray.size_extract]; omega
      have hq : ¬ 9223372036854775807 < (Jo.joined (cutT xs k)).size + (x.extract 0 60).size := by omega
      clear hx hcell hjs
      go_wp2_with (first
        | (go_at_call 11; refine (Cut_any _ x 60 (by decide)).mono ?_; rintro e w1' ⟨rfl, rfl⟩; skip)
        | (at_builtin; refine app1 rfl _ _ _ rfl Tryd.underlying31 infoStr rfl (by decide) HO.out rfl rfl rfl ?_ hszb ?_
           · rw [List.length_map, HLL.out]; omega
           intro v' w3 hO' hg' _
           rw [HMS.out, ← HS.out] at hO'
           have HO' := Lib.hid hO'
           have HB' := Lib.hid (HB.out.grown hg' hszb (HO.out.ge (Nat.le_refl _)))
           clear hO' hg'))
      go_roundw
      case rel =>
        have hJ := HS.out
        first
          | exact ⟨k + 1, by omega, by omega, by go_num, by rw [hJ, HJP.out], HO'.out, HB'.out⟩
          | ((repeat apply Exists.intro); refine ⟨?_, rfl⟩; exact ⟨k + 1, by omega, by omega, by go_num, by rw [hJ, HJP.out], HO'.out, HB'.out⟩)
      case measure => simp [intOf]; omega
    have hjs' : (Jo.joined (cutT xs k)).size ≤ 100000 := by omega
    have hLn : (cutT xs k).length ≤ 1000 := by rw [HLL.out]; omega
    obtain ⟨A2, c2, rfl, hR2⟩ := rd_of_owns HO.out
    have HR2 := Lib.hid hR2
    have HTr := Lib.hid (HT.out.below HB.out HT.out.size)
    generalize cutT xs k = L at *
    have HJs := Lib.hid hjs'
    clear hjs hjs' HLL HO HR HT HE0 hR2
    obtain ⟨t, ht⟩ : ∃ t, Jo.joined L = t := ⟨_, rfl⟩
    rw [ht] at HJs ⊢
    have HTL := Lib.hid ht
    have HT1 := Lib.hid (show (Jo.joined [t]).data.toList = t.data.toList from joined_one t)
    have HT1S := Lib.hid (show (Jo.joined [t]).size ≤ 100000 by rw [joined_size]; simpa using HJs.out)
    clear ht
    obtain ⟨d, hd'⟩ : ∃ d, hmacL key.data.toList t.data.toList = d := ⟨_, rfl⟩
    have hdl : d.length = 32 := by rw [← hd', hmacL_length]
    have HDL := Lib.hid hdl
    have HD := Lib.hid hd'
    have HZ1 := Lib.hid (show (bytesV d).size = 32 by rw [bytesV_size, hdl])
    have HMK := Lib.hid (show (⟨d.toArray⟩ : ByteArray) = mkS d from rfl)
    clear hd' hdl
    have hd : decide (k < n) = true ∧ decide ((k : Int) < 8) = false ∨ decide (k < n) = false := by
      by_cases h1 : k < n
      · left; simp; omega
      · right; simp; omega
    have tok := True.intro
    rcases hd with ⟨hd1, hd2⟩ | hd1
    all_goals
      try have hik : (k : Int) < n := by simp at hd1; omega
      go_wp2_with (first
        | (have _t := tok; go_at_call 19; refine (HSum_any _ key A2 L.length c2 L rfl HR2.out hLn (by rw [HTL.out]; exact HJs.out) HKS.out HTr.out).mono ?_; rintro e w1 ⟨rfl, hb1⟩; skip
           rw [HTL.out, HD.out]; have HB1 := Lib.hid hb1; have HT2 := Lib.hid (HTr.out.below hb1 HTr.out.size); clear hb1 _t tok; have tok2 := True.intro)
        | (have _t := tok2; go_at_call 19; refine (HSum_any _ key (some ⟨w1.heap.size, 0, none⟩) 1 1 [t] rfl (Rd.one _ _ _) (by decide) HT1S.out HKS.out (HT2.out.below ((Below.refl _ _).alloc (Nat.le_refl _) _) HT2.out.size)).mono ?_; rintro e w2 ⟨rfl, hb2⟩; skip
           rw [HT1.out, HD.out]; have HB2 := Lib.hid (show Below w1.heap.size w1 w2 from ((Below.refl _ _).alloc (Nat.le_refl _) _).trans (hb2.mono (by simp))); clear hb2 _t tok2; have tok3 := True.intro)
        | (have _t := tok3
           refine store_blk rfl 24 _ _ rfl w2.heap.size (bytesV d) _ 24 rfl rfl ((Rg.Blk.new w2 _ _).alloc _) (by rw [HZ1.out]; rfl) (by rw [HZ1.out]; rfl) (bytesV_one _) ?_
           intro X hX hgX
           have HX := Lib.hid hX
           have HQ := Lib.hid (show ∃ cs : Array Value, cs.size = 32 ∧ Rg.Blk X (w2.heap.size + 1) 24 cs from ⟨_, rfl, blk_grown (Rg.Blk.newAt (by simp) _ _) hgX (by omega)⟩)
           have HBX := Lib.hid (show Below w2.heap.size w2 X from (((Below.refl _ _).alloc (Nat.le_refl _) _).alloc (by simp) _).grown hgX (by simp; omega) (fun k hk => by cases hk; exact Nat.le_refl _))
           clear hX hgX _t tok3; have tok4 := True.intro)
        | (have _t := tok4
           obtain ⟨cs, hcs, hB⟩ := HQ.out
           refine store_blk rfl 24 _ _ rfl (w2.heap.size + 1) (bytesV d) cs 24 rfl rfl hB (by rw [HZ1.out]; rfl) (by rw [HZ1.out]; exact hcs) (bytesV_one _) ?_
           intro Y hY hgY
           have HY := Lib.hid hY
           have HXY := Lib.hid (blk_grown HX.out hgY (by omega))
           have HBY := Lib.hid (show Below w2.heap.size w2 Y from HBX.out.grown hgY HBX.out.size (fun k hk => by cases hk; omega))
           clear hY hgY hcs hB _t tok4))
      try simp only [Act.put]
      have l1 := HXY.out.lt
      have l2 := HY.out.lt
      have E1 := fun x : Rg.Later Y.heap.size Y => run_equalIn_self (P := Tryd.prog) x.val 24 5 32 Tryd.underlying24 Tryd.underlying5 infoU8 d HDL.out
      have R1 := fun x : Rg.Later Y.heap.size Y => (run_string_len (P := Tryd.prog) x.val 28 5 9 Tryd.underlying28 Tryd.underlying5 Tryd.underlying9 w2.heap.size 0 32 32 d HDL.out ((Bytes.of_blk HXY.out).below x.is l1)).trans (by rw [HMK.out])
      refine Rg.wp_region_later_all Y.heap.size (by kernel_rfl) (by kernel_rfl) ?_
      repeat (first
        | (go_big_quiet_want; refine Rg.quiet_load_row 24 _ rfl _ rfl _ _ _ (HXY.out.later l1) Tryd.underlying24 rfl (by rw [HZ1.out]; rfl) ?_; simp only [Act.put, List.setIfInBounds_toArray, List.set_cons_succ, List.set_cons_zero]; go_big_quiet_on)
        | (go_big_quiet_want; refine Rg.quiet_load_row 24 _ rfl _ rfl _ _ _ (HY.out.later l2) Tryd.underlying24 rfl (by rw [HZ1.out]; rfl) ?_; simp only [Act.put, List.setIfInBounds_toArray, List.set_cons_succ, List.set_cons_zero]; go_big_quiet_on)
        | go_big_quiet_step ((go_at_call 20; exact Rg.later_of (Nat.le_refl _) (HD.out ▸ RefHSum_any _ key t HKS.out HJs.out))))
      refine wpQuiet_nil ?_
      rintro _ ⟨s9, rfl⟩
      clear R1 E1
      go_wp2_with fail
      go_ret
      have h1 := HB1.out.size
      have h2 := HB2.out.size
      have h3 := HBY.out.size
      exact ⟨by simp, ((((HB.out.trans (HB1.out.mono (by omega))).trans (HB2.out.mono (by omega))).trans (HBY.out.mono (by omega))).trans (s9.is.mono (by omega)))⟩
end Go.Proofs.YtoehmjkgjleaaaaDoor.Sha
