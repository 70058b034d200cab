/- The law ShaParts: the walk. -/
import Derived.Test.YtoehmjkgjleaaaaDoorLawShaSums
import Derived.Test.YtoehmjkgjleaaaaDoorBytesEq
import Derived.Test.YtoehmjkgjleaaaaDoorOwn
set_option linter.unusedVariables false
set_option linter.unusedSimpArgs false
namespace Go.Proofs.YtoehmjkgjleaaaaDoor.Sha
open Go.RowKit Go.Proofs.YtoehmjkgjleaaaaDoor.Cl Go.Proofs.YtoehmjkgjleaaaaDoor.Cv Go.Proofs.YtoehmjkgjleaaaaDoor.Ow
theorem infoStr : (Tryd.prog.info? 9).map (fun i => (i.zero, i.size, i.bytes)) = some (some (.string ⟨#[]⟩), 1, 16) := by kernel_rfl
/-- the first k texts, each with an empty one behind it -/
def spaced (xs : List ByteArray) (k : Nat) : List ByteArray := (xs.take k).flatMap fun x => [x.extract 0 60, ⟨#[]⟩]
theorem spaced_succ (xs : List ByteArray) (k : Nat) (x : ByteArray) (h : xs[k]? = some x) : spaced xs (k + 1) = spaced xs k ++ [x.extract 0 60, ⟨#[]⟩] := by
  unfold spaced
  rw [List.take_add_one, h]
  simp
theorem spaced_length (xs : List ByteArray) (k : Nat) (h : k ≤ xs.length) : (spaced xs k).length = 2 * k := by
  induction k with
  | zero => simp [spaced]
  | succ k ih =>
    rw [spaced_succ xs k _ (List.getElem?_eq_getElem (by omega)), List.length_append, ih (by omega)]
    simp; omega
theorem joined_push (xs : List ByteArray) (s : ByteArray) : Jo.joined (xs ++ [s, ⟨#[]⟩]) = Jo.joined xs ++ s := by
  apply ByteArray.ext
  apply Array.toList_inj.1
  rw [Jo.joined_list, bytes_append, Jo.joined_list, List.flatMap_append]
  simp
theorem spaced_size (xs : List ByteArray) (k : Nat) (h : k ≤ xs.length) : (Jo.joined (spaced xs k)).size ≤ 60 * k := by
  induction k with
  | zero => rw [joined_size]; simp [spaced]
  | succ k ih =>
    rw [spaced_succ xs k _ (List.getElem?_eq_getElem (by omega)), joined_push, ByteArray.size_append, ByteArray.size_extract]
    have := ih (by omega)
    omega
theorem parts_of {w : World} {B : Nat} {E : TypeId} {v : Value} {xs : List ByteArray} (h : Owns w B E v (xs.map Value.string)) : Jo.Parts w v xs := by
  obtain ⟨A, c, rfl, hR, hc⟩ := h.form
  rw [List.length_map] at hc ⊢
  by_cases h0 : xs = []
  · subst h0; exact .inl ⟨rfl, A, c, rfl⟩
  · have hpos : 0 < xs.length := List.length_pos_iff.2 h0
    obtain ⟨b, o, rfl, hl, hx⟩ := hR.place (by rw [List.length_map]; exact hpos)
    exact .inr ⟨b, o, c, rfl, fun j x hj => hx j _ (by rw [List.getElem?_map, hj]; rfl), hl, hc⟩
theorem map_spaced (xs : List ByteArray) (s : ByteArray) : xs.map Value.string ++ [.string s, .string ⟨#[]⟩] = (xs ++ [s, ⟨#[]⟩]).map Value.string := by simp
theorem Rd.two (w : World) (T : TypeId) (y z : Value) : Rd (w.alloc (.cells #[y, z] T)) (some ⟨w.heap.size, 0, none⟩) [y, z] := fun j x hj => by
  match j, hj with
  | 0, hj => simp at hj; subst hj; exact ⟨_, 0, rfl, by simp, (Rg.Blk.new w _ _).cell 0 rfl⟩
  | 1, hj => simp at hj; subst hj; exact ⟨_, 0, rfl, by simp, (Rg.Blk.new w _ _).cell 1 rfl⟩
set_option maxRecDepth 20000 in
set_option maxHeartbeats 2000000 in
theorem law_ShaParts (w : World) (A : Option Addr) (c : Nat) (xs : List ByteArray) (hR : Rd w A (xs.map Value.string)) (hc : xs.length ≤ c) (hm : c ≤ maxLen) (hT : Tables w) :
    Calls Tryd.prog 4 #[.slice A xs.length c] w fun e w' => e = .returned (.bool true) ∧ Below w.heap.size w w' := by
  have HT := Lib.hid hT
  have HR := Lib.hid hR
  obtain ⟨n, hn⟩ : ∃ n, xs.length = n := ⟨_, rfl⟩
  have hnm : n ≤ 9223372036854775807 := by unfold maxLen at hm; omega
  rw [hn]
  have HN := Lib.hid hn
  clear hT hR hn hm hc
  go_enter Tryd.func4, Tryd.ntmps4
  go_wp2_with (go_at_call 10; refine (awake_any _ HT.out).mono ?_; rintro e w00 ⟨rfl, hb0⟩; skip; have HB00 := Lib.hid hb0; clear hb0)
  have hE0 : (⟨#[]⟩ : ByteArray) = Jo.joined (spaced xs 0) := by unfold Jo.joined spaced; rfl
  have HE0 := Lib.hid hE0
  clear hE0
  go_loopw [3, 4, 5] (fun a v i wr => ∃ k : Nat, k ≤ n ∧ k ≤ 10 ∧ i = .int .i64 k ∧ a = .string (Jo.joined (spaced xs k)) ∧ Owns wr w.heap.size 9 v ((spaced xs k).map Value.string) ∧ Below w.heap.size w wr) (fun _ _ i _ => 10 - (intOf i).toNat)
  case atStart => exact ⟨0, Nat.zero_le _, by decide, rfl, by rw [← HE0.out], Owns.nil _ _ _, HB00.out⟩
  case round =>
    obtain ⟨k, hk, hk10, rfl, rfl, hO, hb⟩ := hrel
    have hjs := spaced_size xs k (by rw [HN.out]; exact hk)
    have hll := spaced_length xs k (by rw [HN.out]; exact hk)
    have HLL := Lib.hid hll
    have HO := Lib.hid hO
    have HB := Lib.hid hb
    have hszb := hb.size
    clear hO hb hll HB00
    by_cases hgo : k < n ∧ k < 10
    case pos =>
      obtain ⟨hkn, hkt⟩ := hgo
      have hd1 : decide (k < n) = true := by simp; exact hkn
      have hd2 : decide ((k : Int) < 10) = true := by simp; omega
      obtain ⟨b, o, rfl, hbl, hcell⟩ := HR.out.at_ (j := k) (by rw [List.length_map, HN.out]; exact hkn)
      rw [List.getElem_map] at hcell
      have hx : xs[k]? = some (xs[k]'(by rw [HN.out]; exact hkn)) := List.getElem?_eq_getElem _
      generalize xs[k]'(by rw [HN.out]; exact hkn) = x at *
      have HS := Lib.hid (spaced_succ xs k x hx)
      have hcw := (HB.out.cell (p := ⟨b, o + k, none⟩) hbl).trans hcell
      have HMS := Lib.hid (map_spaced (spaced xs k) (x.extract 0 60))
      have HJP := Lib.hid (joined_push (spaced xs k) (x.extract 0 60))
      have hik : (k : Int) < n := by omega
      have hxe : (x.extract 0 60).size ≤ 60 := by rw [ByteArray.size_extract]; omega
      have hq : ¬ 9223372036854775807 < (Jo.joined (spaced xs k)).size + (x.extract 0 60).size := by omega
      clear hx hcell hjs
      go_wp2_with (first
        | (go_at_call 11; refine (Cut_any _ x 60 (by decide)).mono ?_; rintro e w1' ⟨rfl, rfl⟩; skip)
        | (at_builtin; refine app rfl _ _ _ rfl Tryd.underlying31 infoStr rfl (by decide) (HO.out.alloc _) rfl rfl rfl (Rd.two _ _ _ _) ?_ ?_ ?_ ?_
           · intro u hu; simp at hu; rcases hu with rfl | rfl <;> rfl
           · rw [List.length_map, HLL.out]; omega
           · simp; omega
           intro v' w3 hO' hg' _
           rw [HMS.out, ← HS.out] at hO'
           have HO' := Lib.hid hO'
           have HB' := Lib.hid ((HB.out.alloc hszb _).grown hg' (by simp; omega) (HO.out.ge (Nat.le_refl _)))
           clear hO' hg'))
      go_roundw
      case rel =>
        have hJ := HS.out
        first
          | exact ⟨k + 1, by omega, by omega, by go_num, by rw [hJ, HJP.out], HO'.out, HB'.out⟩
          | ((repeat apply Exists.intro); refine ⟨?_, rfl⟩; exact ⟨k + 1, by omega, by omega, by go_num, by rw [hJ, HJP.out], HO'.out, HB'.out⟩)
      case measure => simp [intOf]; omega
    have hjs' : (Jo.joined (spaced xs k)).size ≤ 1000000 := by omega
    have HL := Lib.hid (show (spaced xs k).length ≤ 1000000 by rw [HLL.out]; omega)
    have HP := Lib.hid (parts_of HO.out)
    have HTr := Lib.hid (HT.out.below HB.out HT.out.size)
    generalize spaced xs k = L at *
    have HJs := Lib.hid hjs'
    clear hjs hjs' HLL HO HR HT HE0
    obtain ⟨t, ht⟩ : ∃ t, Jo.joined L = t := ⟨_, rfl⟩
    rw [ht] at HJs ⊢
    have HTL := Lib.hid ht
    clear ht
    have HZ1 := Lib.hid (show (bytesV (sha 32 t.data.toList)).size = 32 by rw [bytesV_size, sha_length 32 (by decide)])
    have HZ2 := Lib.hid (show (bytesV (sha 64 t.data.toList)).size = 64 by rw [bytesV_size, sha_length 64 (by decide)])
    have hd : decide (k < n) = true ∧ decide ((k : Int) < 10) = false ∨ decide (k < n) = false := by
      by_cases h1 : k < n
      · left; simp; omega
      · right; simp; omega
    have hcode : ∀ W : World, True := fun _ => True.intro
    clear hcode
    rcases hd with ⟨hd1, hd2⟩ | hd1
    all_goals
      try have hik : (k : Int) < n := by simp at hd1; omega
      go_wp2_with (first
        | (go_at_call 12; have _t := HP; refine (Sum256_any _ _ L HTr.out HP.out (by rw [HTL.out]; exact HJs.out) HL.out).mono ?_; rintro e w1 ⟨rfl, hb1⟩; skip; rw [HTL.out]; have HB1 := Lib.hid hb1; have HT1 := Lib.hid (HTr.out.below hb1 HTr.out.size); have HP1 := Lib.hid (HP.out.below hb1); clear hb1 _t HP)
        | (go_at_call 13; have _t := HP1; refine (Sum512_any _ _ L HT1.out HP1.out (by rw [HTL.out]; exact HJs.out) HL.out).mono ?_; rintro e w2 ⟨rfl, hb2⟩; skip; rw [HTL.out]; have HB2 := Lib.hid hb2; have HT2 := Lib.hid (HT1.out.below hb2 HT1.out.size); clear hb2 _t HP1; have tok := True.intro)
        | (have _t := tok
           refine store_blk rfl 24 _ _ rfl w2.heap.size (bytesV (sha 32 t.data.toList)) _ 24 rfl rfl ((Rg.Blk.new w2 _ _).alloc _) (by rw [HZ1.out]; rfl) (by rw [HZ1.out]; rfl) (bytesV_one _) ?_
           intro X hX hgX
           have HX := Lib.hid hX
           have HQ := Lib.hid (show ∃ cs : Array Value, cs.size = 64 ∧ Rg.Blk X (w2.heap.size + 1) 26 cs from ⟨_, rfl, blk_grown (Rg.Blk.newAt (by simp) _ _) hgX (by omega)⟩)
           have HBX := Lib.hid (show Below w2.heap.size w2 X from (((Below.refl _ _).alloc (Nat.le_refl _) _).alloc (by simp) _).grown hgX (by simp; omega) (fun k hk => by cases hk; exact Nat.le_refl _))
           clear hX hgX _t tok; have tok2 := True.intro)
        | (have _t := tok2
           obtain ⟨cs, hcs, hB⟩ := HQ.out
           refine store_blk rfl 26 _ _ rfl (w2.heap.size + 1) (bytesV (sha 64 t.data.toList)) cs 26 rfl rfl hB (by rw [HZ2.out]; rfl) (by rw [HZ2.out]; exact hcs) (bytesV_one _) ?_
           intro Y hY hgY
           have HY := Lib.hid hY
           have HXY := Lib.hid (blk_grown HX.out hgY (by omega))
           have HBY := Lib.hid (show Below w2.heap.size w2 Y from HBX.out.grown hgY HBX.out.size (fun k hk => by cases hk; omega))
           have HTY := Lib.hid (HT2.out.below HBY.out HT2.out.size)
           clear hY hgY hcs hB _t tok2; have tok3 := True.intro)
        | (have _t := tok3; go_at_call 12; refine (Sum256_one _ _ _ HTY.out HJs.out).mono ?_; rintro e w3 ⟨rfl, hb3⟩; skip; have HB3 := Lib.hid hb3; have HT3 := Lib.hid (HTY.out.below hb3 HTY.out.size); clear hb3 _t tok3)
        | (go_at_call 13; refine (Sum512_one _ _ _ HT3.out HJs.out).mono ?_; rintro e w4 ⟨rfl, hb4⟩; skip; have HB4 := Lib.hid hb4; clear hb4; have tok4 := True.intro)
        | (have _t := tok4
           refine store_blk rfl 24 _ _ rfl w4.heap.size (bytesV (sha 32 t.data.toList)) _ 24 rfl rfl ((Rg.Blk.new w4 _ _).alloc _) (by rw [HZ1.out]; rfl) (by rw [HZ1.out]; rfl) (bytesV_one _) ?_
           intro Z hZ hgZ
           have HZ := Lib.hid hZ
           have HR := Lib.hid (show ∃ cs : Array Value, cs.size = 64 ∧ Rg.Blk Z (w4.heap.size + 1) 26 cs from ⟨_, rfl, blk_grown (Rg.Blk.newAt (by simp) _ _) hgZ (by omega)⟩)
           have HBZ := Lib.hid (show Below w4.heap.size w4 Z from (((Below.refl _ _).alloc (Nat.le_refl _) _).alloc (by simp) _).grown hgZ (by simp; omega) (fun k hk => by cases hk; exact Nat.le_refl _))
           clear hZ hgZ _t tok4; have tok5 := True.intro)
        | (have _t := tok5
           obtain ⟨cs, hcs, hB⟩ := HR.out
           refine store_blk rfl 26 _ _ rfl (w4.heap.size + 1) (bytesV (sha 64 t.data.toList)) cs 26 rfl rfl hB (by rw [HZ2.out]; rfl) (by rw [HZ2.out]; exact hcs) (bytesV_one _) ?_
           intro U hU hgU
           have HU := Lib.hid hU
           have HZU := Lib.hid (blk_grown HZ.out hgU (by omega))
           have HBU := Lib.hid (show Below w4.heap.size w4 U from HBZ.out.grown hgU HBZ.out.size (fun k hk => by cases hk; omega))
           clear hU hgU hcs hB _t tok5; have tok6 := True.intro))
      try simp only [Act.put]
      have h1 := HB1.out.size
      have h2 := HB2.out.size
      have hY := HBY.out.size
      have h3 := HB3.out.size
      have h4 := HB4.out.size
      have hU := HBU.out.size
      have hYU : Below Y.heap.size Y U := (HB3.out.trans (HB4.out.mono (by omega))).trans (HBU.out.mono (by omega))
      have hl7 := HXY.out.lt
      have hl8 := HY.out.lt
      have B7 := Lib.hid (HXY.out.below hYU hl7)
      have B8 := Lib.hid (HY.out.below hYU hl8)
      have B9 := HZU
      have B10 := HU
      have l7 := Nat.lt_of_lt_of_le hl7 hYU.size
      have l8 := Nat.lt_of_lt_of_le hl8 hYU.size
      have l9 := B9.out.lt
      have l10 := B10.out.lt
      have E1 := fun x : Rg.Later U.heap.size U => run_equalIn_self (P := Tryd.prog) x.val 24 5 32 Tryd.underlying24 Tryd.underlying5 infoU8 (sha 32 t.data.toList) (sha_length 32 (by decide) _)
      have E2 := fun x : Rg.Later U.heap.size U => run_equalIn_self (P := Tryd.prog) x.val 26 5 64 Tryd.underlying26 Tryd.underlying5 infoU8 (sha 64 t.data.toList) (sha_length 64 (by decide) _)
      have R1 := fun x : Rg.Later U.heap.size U => run_shaS 32 (by decide) t w2.heap.size _ _ B7.out x.is l7
      refine Rg.wp_region_later_all U.heap.size (by kernel_rfl) (by kernel_rfl) ?_
      repeat (first
        | (go_big_quiet_want; refine Rg.quiet_load_row 24 _ rfl _ rfl _ _ _ (B7.out.later l7) Tryd.underlying24 rfl (by rw [HZ1.out]; rfl) ?_; simp only [Act.put, List.setIfInBounds_toArray, List.set_cons_succ, List.set_cons_zero]; go_big_quiet_on)
        | (go_big_quiet_want; refine Rg.quiet_load_row 24 _ rfl _ rfl _ _ _ (B9.out.later l9) Tryd.underlying24 rfl (by rw [HZ1.out]; rfl) ?_; simp only [Act.put, List.setIfInBounds_toArray, List.set_cons_succ, List.set_cons_zero]; go_big_quiet_on)
        | (go_big_quiet_want; refine Rg.quiet_load_row 26 _ rfl _ rfl _ _ _ (B8.out.later l8) Tryd.underlying26 rfl (by rw [HZ2.out]; rfl) ?_; simp only [Act.put, List.setIfInBounds_toArray, List.set_cons_succ, List.set_cons_zero]; go_big_quiet_on)
        | (go_big_quiet_want; refine Rg.quiet_load_row 26 _ rfl _ rfl _ _ _ (B10.out.later l10) Tryd.underlying26 rfl (by rw [HZ2.out]; rfl) ?_; simp only [Act.put, List.setIfInBounds_toArray, List.set_cons_succ, List.set_cons_zero]; go_big_quiet_on)
        | go_big_quiet_step ((go_at_call 14; exact Rg.later_of (Nat.le_refl _) (RefSum256_any _ _ HJs.out))))
      refine wpQuiet_nil ?_
      rintro _ ⟨s9, rfl⟩
      clear R1 E1 E2
      go_wp2_with fail
      go_ret
      have hb := HB.out.size
      exact ⟨by simp, ((((HB.out.trans (HB1.out.mono (by omega))).trans (HB2.out.mono (by omega))).trans (HBY.out.mono (by omega))).trans (hYU.mono (by omega))).trans (s9.is.mono (by omega))⟩
end Go.Proofs.YtoehmjkgjleaaaaDoor.Sha
