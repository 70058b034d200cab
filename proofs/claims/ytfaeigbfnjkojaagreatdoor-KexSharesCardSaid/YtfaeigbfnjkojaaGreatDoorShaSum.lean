/- The whole of a sum. -/
import Derived.Test.YtfaeigbfnjkojaaGreatDoorShaMix
import Derived.Test.YtfaeigbfnjkojaaGreatDoorShaMath3
import Derived.Test.YtfaeigbfnjkojaaGreatDoorBuilder
import Derived.Test.YtfaeigbfnjkojaaGreatDoorJoin
import Derived.Test.YtfaeigbfnjkojaaGreatDoorIdx
set_option linter.unusedVariables false
set_option linter.unusedSimpArgs false
namespace Go.Proofs.YtfaeigbfnjkojaaGreatDoor.Sha
open Go.RowKit Go.Proofs.YtfaeigbfnjkojaaGreatDoor.Cl

/-- the first k words of h, then zeros -/
def pad8 (h : List Nat) (k : Nat) : List Nat := (List.range 8).map fun i => if i < k then nth h i else 0
theorem pad8_length (h : List Nat) (k : Nat) : (pad8 h k).length = 8 := by simp [pad8]
theorem pad8_set (h : List Nat) (k v : Nat) (hk : k < 8) (hv : v = nth h k) : (pad8 h k).set k v = pad8 h (k + 1) := by
  apply List.ext_getElem
  · simp [pad8]
  · intro i h1 h2
    rw [List.getElem_set]
    simp only [pad8, List.getElem_map, List.getElem_range]
    by_cases hij : k = i
    · subst hij; simp [hv]
    · have : i < k + 1 ↔ i < k := by omega
      simp [hij, this]
theorem pad8_all (h : List Nat) (hl : h.length = 8) : pad8 h 8 = h := by
  match h, hl with
  | [a, b, c, d, e, f, g, i], _ => rfl
theorem zero8 (w : World) (T : Nat) : Row (w.alloc (.cells #[.int .u64 0, .int .u64 0, .int .u64 0, .int .u64 0, .int .u64 0, .int .u64 0, .int .u64 0, .int .u64 0] T)) w.heap.size T (pad8 [] 0) := Rg.Blk.new w _ T
theorem pad8_zero (h : List Nat) : pad8 h 0 = pad8 [] 0 := by rfl
theorem nth_h0 (W k : Nat) (hk : k < 8) : nth (h0 W) k = if W = 32 then hi32 (nth firstL k) else nth firstL k := by
  simp [nth, h0, hk]
theorem extract_list (s : ByteArray) (n : Nat) : (s.extract n s.size).data.toList = s.data.toList.drop n := by
  simp
  exact List.take_of_length_le (by rw [List.length_drop, Array.length_toList]; exact Nat.le_refl _)
theorem extract_list0 (s : ByteArray) (n : Nat) : (s.extract 0 n).data.toList = s.data.toList.take n := by
  simp
theorem outBytes_snoc (W : Nat) (hs : List Nat) (j : Nat) (hj : j < hs.length) : Lib.byteCells (outBytes W (hs.take (j + 1))) = Lib.byteCells (outBytes W (hs.take j)) ++ Lib.byteCells (beBytes (W / 8) (nth hs j)) := by
  have e : nth hs j = hs[j] := by simp [nth, hj]
  rw [List.take_succ_eq_append_getElem hj, ← e]
  unfold outBytes Lib.byteCells
  rw [List.flatMap_append, List.map_append, List.flatMap_cons, List.flatMap_nil, List.append_nil]
def padn (n : Nat) : Nat := (128 - (n + 17) % 128) % 128
def strLen : Value → Nat
  | .string s => s.size
  | _ => 0
theorem bytes_append (a b : ByteArray) : (a ++ b).data.toList = a.data.toList ++ b.data.toList := by
  simp

set_option maxRecDepth 20000 in
set_option maxHeartbeats 1000000 in
theorem sum256 (w : World) (v : Value) (xs : List ByteArray) (hT : Tables w) (hP : Jo.Parts w v xs) (hs : (Jo.joined xs).size ≤ 1000000) (hN : xs.length ≤ 1000000) :
    Calls Tryz.prog 55 #[K256, v] w fun e w' => e = .returned (.string ⟨(sha 32 (Jo.joined xs).data.toList).toArray⟩) ∧ Below w.heap.size w w' := by
  have HT := Lib.hid hT
  have HP := Lib.hid hP
  clear hT hP
  unfold K256
  go_enter Tryz.func55, Tryz.ntmps55
  go_wp2_with (first
    | (refine Rg.box_fresh rfl 102 _ rfl _ rfl ?_; intro V hK hbV hnV; have HK := Lib.hid hK; have HBV := Lib.hid hbV; have HNV := Lib.hid hnV; clear hK hbV hnV))
  generalize hX : World.alloc V _ = X
  have HX := Lib.hid (show Row X V.heap.size 138 (pad8 (h0 32) 0) by subst hX; rw [pad8_zero]; exact zero8 _ _)
  have HKX := Lib.hid (show Rg.Blk X w.heap.size 102 k256c by subst hX; exact HK.out.alloc _)
  have HBX := Lib.hid (show Below w.heap.size w X by subst hX; exact HBV.out.alloc (by rw [HNV.out]; omega) _)
  have hwV : w.heap.size < V.heap.size := by rw [HNV.out]; omega
  clear hX
  go_loopw [18] (fun i wr => ∃ k : Nat, k ≤ 8 ∧ i = .int .i64 k ∧ Row wr V.heap.size 138 (pad8 (h0 32) k) ∧ Below V.heap.size X wr) (fun i _ => 8 - (intOf i).toNat)
  case atStart => exact ⟨0, by decide, rfl, HX.out, Below.refl _ _⟩
  case round =>
    obtain ⟨k, hk, rfl, hR, hb⟩ := hrel
    have hwr : V.heap.size < wr.heap.size := hR.lt
    have HR := Lib.hid hR
    have HB := Lib.hid hb
    have HKr := Lib.hid (HKX.out.below hb hwV)
    have HTr := Lib.hid ((HT.out.below HBX.out HT.out.size).below hb (by have := HT.out.size; omega))
    clear hR hb
    by_cases hk8 : k < 8
    · go_wp2_with fail
      have hKl : w.heap.size < wr.heap.size := by omega
      have tk := fun s : Rg.Later wr.heap.size wr => (s.cell 21 k (Nat.lt_of_lt_of_le (by decide) HTr.out.size)).trans (HTr.out.first k (by omega))
      have ik : (k : Int) < 8 := by omega
      refine Rg.wp_region_later wr.heap.size 7 (by kernel_rfl) (by kernel_rfl) ?_
      simp only [List.take_succ_cons, List.take_zero, List.drop_succ_cons, List.drop_zero]
      repeat (first | (go_big_quiet_want; refine Rg.quiet_load_row 102 _ rfl _ rfl _ _ _ (HKr.out.later hKl) Tryz.underlying102 rfl (by kernel_rfl) ?_; simp only [Act.put, List.setIfInBounds_toArray, List.set_cons_succ, List.set_cons_zero]; go_big_quiet_on) | go_big_quiet_step ((go_at_call 68; exact Rg.later_of (Nat.le_refl _) (word256_any _ _))))
      refine wpQuiet_nil ?_
      rintro _ ⟨s9, rfl⟩
      clear tk
      refine store_cell rfl 50 _ _ rfl rfl rfl Tryz.underlying50 (by kernel_rfl) (HR.out.below s9.is hwr) (by rw [pad8_length]; exact hk8) ?_
      intro w9 hR9 hg9
      have HR9 := Lib.hid hR9
      have HB9 := Lib.hid ((HB.out.trans (s9.is.mono (by omega))).grown hg9 (by have := s9.is.size; omega) (fun k hk => by cases hk; exact Nat.le_refl _))
      clear hR9 hg9
      go_wp2_with fail
      go_roundw
      case rel =>
        refine ⟨k + 1, by omega, by go_num, ?_, HB9.out⟩
        exact pad8_set (h0 32) k _ hk8 (by rw [nth_h0 _ _ hk8]; try rfl) ▸ HR9.out
      case measure => simp [intOf]; omega
    · obtain rfl : k = 8 := by omega
      have kw0 := HKr.out.cell 0 (v := .int .i64 32) rfl
      have HR8 := Lib.hid (show Row wr V.heap.size 138 (h0 32) from pad8_all (h0 32) (h0_length _) ▸ HR.out)
      obtain ⟨n, hn⟩ : ∃ n, (Jo.joined xs).size = n := ⟨_, rfl⟩
      have hn' : n ≤ 1000000 := hn ▸ hs
      have hs' : (Jo.joined xs).size ≤ 140737488355328 := by omega
      have Hs := Lib.hid hs'
      clear hs hs'
      have HPr := Lib.hid (show Jo.Parts wr v xs from HP.out.below (HBX.out.trans (HB.out.mono (by omega))))
      have hp : (-(((n : Int) + 1 + 8) % 64) % 64) = ((zeros 32 n : Nat) : Int) := by unfold zeros; omega
      have hp2 := True.intro
      have hz : zeros 32 n ≤ 256 := by unfold zeros; omega
      have hzs := Jo.zeroStr_size (zeros 32 n)
      have hq1 : ¬ 9223372036854775807 < 1 + (Jo.zeroStr (zeros 32 n)).size := by omega
      have hq2 : ¬ 9223372036854775807 < n + (1 + (Jo.zeroStr (zeros 32 n)).size) := by omega
      clear hzs
      obtain ⟨wo, rfl⟩ : ∃ wo : World, wo = wr := ⟨_, rfl⟩
      go_wp2_with fail
      have kL := fun s : Rg.Later wo.heap.size wo => HKr.out.cellL (show w.heap.size < wo.heap.size by omega) 0 (v := .int .i64 32) rfl s
      refine Rg.wp_region_later_all wo.heap.size (by kernel_rfl) (by kernel_rfl) ?_
      repeat (go_big_quiet_step (fail))
      refine wpQuiet_nil ?_
      rintro _ ⟨s1, rfl⟩
      clear kL kw0
      go_wp2_with (first
        | (go_at_call 69; refine (Jo.join_any _ _ xs (HPr.out.below s1.is) Hs.out (by omega)).mono ?_; rintro e w2 ⟨rfl, hb2⟩; skip; have HB2 := Lib.hid hb2; clear hb2)
        | (go_at_call 70; refine (Jo.repeat_zero _ (zeros 32 n) (by omega)).mono ?_; rintro e w3 ⟨rfl, hb3⟩; skip; have HB3 := Lib.hid hb3; clear hb3))
      clear hq1 hq2 hp hp2
      have HT1 := Lib.hid (show (Jo.joined xs ++ ((⟨#[128]⟩ : ByteArray) ++ Jo.zeroStr (zeros 32 n))).data.toList = (Jo.joined xs).data.toList ++ ([128] ++ List.replicate (zeros 32 n) 0) by rw [bytes_append, bytes_append, Jo.zeroStr_list])
      have HTS := Lib.hid (show (Jo.joined xs ++ ((⟨#[128]⟩ : ByteArray) ++ Jo.zeroStr (zeros 32 n))).size ≤ 1000300 by rw [ByteArray.size_append, ByteArray.size_append, Jo.zeroStr_size, hn]; show n + (1 + zeros 32 n) ≤ _; omega)
      generalize Jo.joined xs ++ ((⟨#[128]⟩ : ByteArray) ++ Jo.zeroStr (zeros 32 n)) = tx at *
      have HKw := Lib.hid (((HKr.out.below s1.is HKr.out.lt).below HB2.out (by have := s1.is.size; omega)).below HB3.out (by have := s1.is.size; have := HB2.out.size; omega))
      have HRw := Lib.hid (((HR8.out.below s1.is hwr).below HB2.out (by have := s1.is.size; omega)).below HB3.out (by have := s1.is.size; have := HB2.out.size; omega))
      have HBw := Lib.hid (show Below w.heap.size w w3 from (((HBX.out.trans (HB.out.mono (by omega))).trans (s1.is.mono (by omega))).trans (HB2.out.mono (by have := s1.is.size; omega))).trans (HB3.out.mono (by have := s1.is.size; have := HB2.out.size; omega)))
      have HBu := Lib.hid (Bu.fresh w3)
      have HBY := Lib.hid (show Below w3.heap.size w3 (w3.alloc (.cells #[.pointer none, .slice none 0 0] 67)) from (Below.refl _ _).alloc (Nat.le_refl _) _)
      go_loopw [13] (fun i wr => ∃ k : Nat, k ≤ 8 ∧ i = .int .i64 (56 - 8 * (k : Int)) ∧ Lib.IsBuilder 67 5 w3.heap.size w3.heap.size (Lib.byteCells ((beBytes 8 (n * 8)).take k)) wr ∧ Below w3.heap.size w3 wr) (fun i _ => (intOf i + 8).toNat)
      case atStart => exact ⟨0, by decide, rfl, HBu.out, HBY.out⟩
      case round =>
        obtain ⟨k, hk, rfl, hU, hb⟩ := hrel
        have HU := Lib.hid hU
        have HBk := Lib.hid hb
        clear hU hb
        by_cases hk8 : k < 8
        · have i0 : 0 ≤ 56 - 8 * (k : Int) := by omega
          have hsz := HBk.out.size
          have hc := be_cells 8 (n * 8) k hk8 (56 - 8 * k) (by omega)
          have HC := Lib.hid hc
          clear hc
          have hle : (Lib.byteCells ((beBytes 8 (n * 8)).take k)).length + 1 ≤ 140737488355328 := by rw [Lib.byteCells_length, List.length_take, beBytes_length]; omega
          have HLE := Lib.hid hle
          clear hle
          go_wp2_with (go_at_call 71; refine (Bu.writeByte _ _ _ _ _ HU.out HLE.out hsz).mono ?_; rintro e w5 ⟨rfl, hU5, hb5⟩; skip; have HU5 := Lib.hid hU5; have HB5 := Lib.hid hb5; clear hU5 hb5)
          go_roundw
          case rel =>
            refine ⟨k + 1, by omega, by go_num, ?_, HBk.out.trans HB5.out⟩
            rw [HC.out]
            exact .inr HU5.out
          case measure => simp [intOf]; omega
        · obtain rfl : k = 8 := by omega
          have hsz := HBk.out.size
          have hq3 : ¬ 9223372036854775807 < tx.size + (beBytes 8 (n * 8)).length := by rw [beBytes_length]; have := HTS.out; omega
          have htake : (beBytes 8 (n * 8)).take 8 = beBytes 8 (n * 8) := List.take_of_length_le (by rw [beBytes_length]; exact Nat.le_refl _)
          have HU8 := Lib.hid (htake ▸ HU.out)
          clear htake
          go_wp2_with (first
            | (go_at_call 53; refine (Tryz.Builder_String_any _ _ _ _ HU8.out hsz).mono ?_; rintro e w6 ⟨rfl, hb6⟩; skip; have HB6 := Lib.hid hb6; clear hb6))
          have HSP := Lib.hid (show (tx ++ (⟨(beBytes 8 (n * 8)).toArray⟩ : ByteArray)).data.toList = padded 32 (Jo.joined xs).data.toList by
            have hbl : (Jo.joined xs).data.toList.length = n := by rw [Array.length_toList]; exact hn
            rw [bytes_append, HT1.out]; unfold padded; rw [hbl])
          have HSZ := Lib.hid (show (tx ++ (⟨(beBytes 8 (n * 8)).toArray⟩ : ByteArray)).size ≤ 1000400 by
            rw [ByteArray.size_append]; have := HTS.out; show tx.size + (beBytes 8 (n * 8)).toArray.size ≤ _; rw [List.size_toArray, beBytes_length]; omega)
          generalize tx ++ (⟨(beBytes 8 (n * 8)).toArray⟩ : ByteArray) = sp at *
          have hm := padded_length32 (Jo.joined xs).data.toList
          have hml : (padded 32 (Jo.joined xs).data.toList).length ≤ 2000000 := by
            rw [← HSP.out, Array.length_toList]; show sp.size ≤ _; exact Nat.le_trans HSZ.out (by decide)
          generalize hbs : (Jo.joined xs).data.toList = bs at *
          have HBS := Lib.hid hbs
          clear hbs
          have HM0 : padded 32 bs = padded 32 bs := rfl
          generalize hmm : padded 32 bs = m at *
          have HM := Lib.hid hmm
          clear hmm HM0
          have HKs := Lib.hid ((HKw.out.below HBk.out HKw.out.lt).below HB6.out HKw.out.lt)
          have HRs := Lib.hid ((HRw.out.below HBk.out HRw.out.lt).below HB6.out HRw.out.lt)
          have HBs := Lib.hid (show Below w.heap.size w w6 from (HBw.out.trans (HBk.out.mono HBw.out.size)).trans (HB6.out.mono HBw.out.size))
          clear hq3
          go_loopw [9] (fun s wr => ∃ (k : Nat) (sv : ByteArray), s = .string sv ∧ sv.data.toList = m.drop (k * 64) ∧ k * 64 ≤ m.length ∧ Row wr V.heap.size 138 (hashTo 32 m k) ∧ Rg.Blk wr w.heap.size 102 k256c ∧ Below w.heap.size w wr) (fun s _ => strLen s)
          case atStart => exact ⟨0, sp, rfl, by rw [HSP.out, Nat.zero_mul]; rfl, by omega, HRs.out, HKs.out, HBs.out⟩
          case round =>
            obtain ⟨k, sv, rfl, hsv, hkm, hR, hK, hb⟩ := hrel
            have hsvl : sv.size = m.length - k * 64 := by
              have := congrArg List.length hsv
              rw [Array.length_toList, List.length_drop] at this; exact this
            have HSV := Lib.hid hsv
            have HR := Lib.hid hR
            have HK := Lib.hid hK
            have HB := Lib.hid hb
            clear hsv hR hK hb
            by_cases hgo : k * 64 < m.length
            · have hge : 64 ≤ sv.size := by omega
              clear hsvl
              have hlw := HR.out.lt
              go_wp2_with fail
              have hi1 : (64 : Int) ≤ sv.size := by omega
              refine Rg.wp_region_later wr.heap.size 4 (by kernel_rfl) (by kernel_rfl) ?_
              simp only [List.take_succ_cons, List.take_zero, List.drop_succ_cons, List.drop_zero]
              repeat (first | (go_big_quiet_want; refine Rg.quiet_load_row 102 _ rfl _ rfl _ _ _ (HK.out.later HK.out.lt) Tryz.underlying102 rfl (by kernel_rfl) ?_; simp only [Act.put, List.setIfInBounds_toArray, List.set_cons_succ, List.set_cons_zero]; go_big_quiet_on) | go_big_quiet_step (fail))
              refine wpQuiet_nil ?_
              rintro _ ⟨s7, rfl⟩
              have hV2 : 2 ≤ V.heap.size := by have := HT.out.size; omega
              have HTx := Lib.hid (show Tables s7.val from (HT.out.below HB.out HT.out.size).below s7.is (by have := HT.out.size; omega))
              have hex : (sv.extract 0 64).size = 64 := by rw [ByteArray.size_extract]; omega
              have Hex := Lib.hid hex
              clear hex
              go_wp2_with (first
                | (go_at_call 72; refine (mix256 _ V.heap.size _ _ Hex.out HTx.out hV2 (HR.out.below s7.is hlw) (hashTo_length _ _ _) (hashTo_lt 32 (by decide) m k)).mono ?_; rintro e w8 ⟨rfl, hR8, hg8⟩; skip; have HRm := Lib.hid hR8; have HGm := Lib.hid hg8; clear hR8 hg8))
              go_roundw
              case rel =>
                have hsv' := HSV.out
                refine ⟨k + 1, _, rfl, ?_, by omega, ?_, blk_grown (HK.out.below s7.is HK.out.lt) HGm.out (by omega), ?_⟩
                · rw [extract_list, hsv', List.drop_drop]
                  congr 1; omega
                · have e : hashTo 32 m (k + 1) = mixed 32 (sv.extract 0 64).data.toList (hashTo 32 m k) := by
                    rw [extract_list0, hsv']; rfl
                  rw [e]; exact HRm.out
                · exact ((HB.out.trans (s7.is.mono (by have := HK.out.lt; omega))).grown HGm.out (by have := s7.is.size; have := HK.out.lt; omega) (fun k hk => by cases hk; omega))
              case measure => simp only [strLen, ByteArray.size_extract]; omega
            · obtain hkl : k * 64 = m.length := by omega
              obtain ⟨wo2, rfl⟩ : ∃ wo2 : World, wo2 = wr := ⟨_, rfl⟩
              have h0s : sv.size = 0 := by omega
              clear hsvl
              have HN8 := Lib.hid (show (u64s (hashTo 32 m k)).size = 8 by simp [u64s, hashTo_length])
              go_wp2_with (first
                | (refine wpList_load_row rfl 138 _ rfl V.heap.size rfl _ _ _ _ (Rg.Blk.alloc HR.out _) Tryz.underlying138 rfl (by rw [HN8.out]; rfl) ?_))
              clear h0s
              have HBo := Lib.hid (show Below w.heap.size w wo2 from HB.out)
              have HKo := Lib.hid (show Rg.Blk wo2 w.heap.size 102 k256c from HK.out)
              have HBu2 := Lib.hid (Bu.fresh wo2)
              have HBY2 := Lib.hid (show Below wo2.heap.size wo2 (wo2.alloc (.cells #[.pointer none, .slice none 0 0] 67)) from (Below.refl _ _).alloc (Nat.le_refl _) _)
              have hhl := hashTo_length 32 m k
              have HSHA := Lib.hid (show sha 32 bs = outBytes 32 (hashTo 32 m k) by
                unfold sha; rw [HM.out]; congr 2; omega)
              have hwo : w.heap.size < wo2.heap.size := HKo.out.lt
              generalize hashTo 32 m k = hs at *
              go_loopw [83] (fun i wr => ∃ j : Nat, j ≤ 8 ∧ i = .int .i64 j ∧ Lib.IsBuilder 67 5 wo2.heap.size wo2.heap.size (Lib.byteCells (outBytes 32 (hs.take j))) wr ∧ Below wo2.heap.size wo2 wr) (fun i _ => 8 - (intOf i).toNat)
              case atStart => exact ⟨0, by decide, rfl, HBu2.out, HBY2.out⟩
              case round =>
                obtain ⟨j, hj, rfl, hU, hb⟩ := hrel
                have HU2 := Lib.hid hU
                have HBk2 := Lib.hid hb
                clear hU hb
                by_cases hj8 : j < 8
                · have hidx := fun w => index_words (P := Tryz.prog) 138 50 8 hs j Tryz.underlying138 Tryz.underlying50 (by kernel_rfl) hhl hj8 w
                  have kw0 := (HKo.out.below HBk2.out hwo).cell 0 (v := .int .i64 32) rfl
                  obtain ⟨wo3, rfl⟩ : ∃ wo3 : World, wo3 = wr := ⟨_, rfl⟩
                  have hd : decide ((j : Int) < 8) = true := by simp; omega
                  go_wp2_with fail
                  clear hd
                  clear hidx kw0
                  go_loopw [17] (fun i wr => ∃ l : Nat, l ≤ 4 ∧ i = .int .i64 (24 - 8 * (l : Int)) ∧ Lib.IsBuilder 67 5 wo2.heap.size wo2.heap.size (Lib.byteCells (outBytes 32 (hs.take j)) ++ Lib.byteCells ((beBytes 4 (nth hs j)).take l)) wr ∧ Below wo2.heap.size wo2 wr) (fun i _ => (intOf i + 8).toNat)
                  case atStart => exact ⟨0, by omega, rfl, by rw [show (beBytes 4 (nth hs j)).take 0 = [] from rfl, show Lib.byteCells [] = [] from rfl, List.append_nil]; exact HU2.out, HBk2.out⟩
                  case round =>
                    obtain ⟨l, hl, rfl, hU, hb⟩ := hrel
                    have HU3 := Lib.hid hU
                    have HBk3 := Lib.hid hb
                    have hsz := HBk3.out.size
                    clear hU hb
                    by_cases hl8 : l < 4
                    · have i0 : 0 ≤ 24 - 8 * (l : Int) := by omega
                      have HC := Lib.hid (be_cells 4 (nth hs j) l hl8 (24 - 8 * l) (by omega))
                      have hle : (Lib.byteCells (outBytes 32 (hs.take j)) ++ Lib.byteCells ((beBytes 4 (nth hs j)).take l)).length + 1 ≤ 140737488355328 := by
                        rw [List.length_append, Lib.byteCells_length, Lib.byteCells_length, outBytes_length, List.length_take, List.length_take, beBytes_length]
                        have : min j hs.length * (32 / 8) ≤ 8 * 4 := Nat.mul_le_mul (by omega) (by decide)
                        omega
                      have HLE := Lib.hid hle
                      clear hle
                      go_wp2_with (go_at_call 71; refine (Bu.writeByte _ _ _ _ _ HU3.out HLE.out hsz).mono ?_; rintro e w9 ⟨rfl, hU9, hb9⟩; skip; have HU9 := Lib.hid hU9; have HB9 := Lib.hid hb9; clear hU9 hb9)
                      go_roundw
                      case rel =>
                        have hU10 : Lib.IsBuilder 67 5 wo2.heap.size wo2.heap.size (Lib.byteCells (outBytes 32 (hs.take j)) ++ Lib.byteCells ((beBytes 4 (nth hs j)).take (l + 1))) w9 := by
                          rw [HC.out, ← List.append_assoc]
                          exact .inr HU9.out
                        first
                          | exact ⟨l + 1, by omega, by go_num, hU10, HBk3.out.trans HB9.out⟩
                          | ((repeat apply Exists.intro); refine ⟨?_, rfl⟩; exact ⟨l + 1, by omega, by go_num, hU10, HBk3.out.trans HB9.out⟩)
                      case measure => simp [intOf]; omega
                    · obtain rfl : l = 4 := by omega
                      go_wp2_with fail
                      go_roundw
                      case rel =>
                        have hU11 : Lib.IsBuilder 67 5 wo2.heap.size wo2.heap.size (Lib.byteCells (outBytes 32 (hs.take (j + 1)))) wr := by
                          rw [outBytes_snoc 32 hs j (by omega)]
                          have := HU3.out
                          rwa [show (beBytes 4 (nth hs j)).take 4 = beBytes 4 (nth hs j) from List.take_of_length_le (by rw [beBytes_length]; exact Nat.le_refl _)] at this
                        first
                          | exact ⟨j + 1, by omega, by go_num, hU11, HBk3.out⟩
                          | ((repeat apply Exists.intro); refine ⟨?_, rfl⟩; exact ⟨j + 1, by omega, by go_num, hU11, HBk3.out⟩)
                      case measure => simp [intOf]; omega
                · obtain rfl : j = 8 := by omega
                  have hsz := HBk2.out.size
                  have HU8b := Lib.hid (show Lib.IsBuilder 67 5 wo2.heap.size wo2.heap.size (Lib.byteCells (outBytes 32 hs)) wr from (show hs.take 8 = hs from List.take_of_length_le (by omega)) ▸ HU2.out)
                  go_wp2_with (first
                    | (go_at_call 53; refine (Tryz.Builder_String_any _ _ _ _ HU8b.out hsz).mono ?_; rintro e w6 ⟨rfl, hb6⟩; skip; have HB6b := Lib.hid hb6; clear hb6))
                  go_ret
                  exact ⟨by rw [HBS.out, HSHA.out]; rfl, (HBo.out.trans (HBk2.out.mono (by omega))).trans (HB6b.out.mono (by omega))⟩

set_option maxRecDepth 20000 in
set_option maxHeartbeats 1000000 in
theorem sum512 (w : World) (v : Value) (xs : List ByteArray) (hT : Tables w) (hP : Jo.Parts w v xs) (hs : (Jo.joined xs).size ≤ 1000000) (hN : xs.length ≤ 1000000) :
    Calls Tryz.prog 55 #[K512, v] w fun e w' => e = .returned (.string ⟨(sha 64 (Jo.joined xs).data.toList).toArray⟩) ∧ Below w.heap.size w w' := by
  have HT := Lib.hid hT
  have HP := Lib.hid hP
  clear hT hP
  unfold K512
  go_enter Tryz.func55, Tryz.ntmps55
  go_wp2_with (first
    | (refine Rg.box_fresh rfl 102 _ rfl _ rfl ?_; intro V hK hbV hnV; have HK := Lib.hid hK; have HBV := Lib.hid hbV; have HNV := Lib.hid hnV; clear hK hbV hnV))
  generalize hX : World.alloc V _ = X
  have HX := Lib.hid (show Row X V.heap.size 138 (pad8 (h0 64) 0) by subst hX; rw [pad8_zero]; exact zero8 _ _)
  have HKX := Lib.hid (show Rg.Blk X w.heap.size 102 k512c by subst hX; exact HK.out.alloc _)
  have HBX := Lib.hid (show Below w.heap.size w X by subst hX; exact HBV.out.alloc (by rw [HNV.out]; omega) _)
  have hwV : w.heap.size < V.heap.size := by rw [HNV.out]; omega
  clear hX
  go_loopw [18] (fun i wr => ∃ k : Nat, k ≤ 8 ∧ i = .int .i64 k ∧ Row wr V.heap.size 138 (pad8 (h0 64) k) ∧ Below V.heap.size X wr) (fun i _ => 8 - (intOf i).toNat)
  case atStart => exact ⟨0, by decide, rfl, HX.out, Below.refl _ _⟩
  case round =>
    obtain ⟨k, hk, rfl, hR, hb⟩ := hrel
    have hwr : V.heap.size < wr.heap.size := hR.lt
    have HR := Lib.hid hR
    have HB := Lib.hid hb
    have HKr := Lib.hid (HKX.out.below hb hwV)
    have HTr := Lib.hid ((HT.out.below HBX.out HT.out.size).below hb (by have := HT.out.size; omega))
    clear hR hb
    by_cases hk8 : k < 8
    · go_wp2_with fail
      have hKl : w.heap.size < wr.heap.size := by omega
      have tk := fun s : Rg.Later wr.heap.size wr => (s.cell 21 k (Nat.lt_of_lt_of_le (by decide) HTr.out.size)).trans (HTr.out.first k (by omega))
      have ik : (k : Int) < 8 := by omega
      refine Rg.wp_region_later wr.heap.size 7 (by kernel_rfl) (by kernel_rfl) ?_
      simp only [List.take_succ_cons, List.take_zero, List.drop_succ_cons, List.drop_zero]
      repeat (first | (go_big_quiet_want; refine Rg.quiet_load_row 102 _ rfl _ rfl _ _ _ (HKr.out.later hKl) Tryz.underlying102 rfl (by kernel_rfl) ?_; simp only [Act.put, List.setIfInBounds_toArray, List.set_cons_succ, List.set_cons_zero]; go_big_quiet_on) | go_big_quiet_step ((go_at_call 68; exact Rg.later_of (Nat.le_refl _) (word512_any _ _))))
      refine wpQuiet_nil ?_
      rintro _ ⟨s9, rfl⟩
      clear tk
      refine store_cell rfl 50 _ _ rfl rfl rfl Tryz.underlying50 (by kernel_rfl) (HR.out.below s9.is hwr) (by rw [pad8_length]; exact hk8) ?_
      intro w9 hR9 hg9
      have HR9 := Lib.hid hR9
      have HB9 := Lib.hid ((HB.out.trans (s9.is.mono (by omega))).grown hg9 (by have := s9.is.size; omega) (fun k hk => by cases hk; exact Nat.le_refl _))
      clear hR9 hg9
      go_wp2_with fail
      go_roundw
      case rel =>
        refine ⟨k + 1, by omega, by go_num, ?_, HB9.out⟩
        exact pad8_set (h0 64) k _ hk8 (by rw [nth_h0 _ _ hk8]; try rfl) ▸ HR9.out
      case measure => simp [intOf]; omega
    · obtain rfl : k = 8 := by omega
      have kw0 := HKr.out.cell 0 (v := .int .i64 64) rfl
      have HR8 := Lib.hid (show Row wr V.heap.size 138 (h0 64) from pad8_all (h0 64) (h0_length _) ▸ HR.out)
      obtain ⟨n, hn⟩ : ∃ n, (Jo.joined xs).size = n := ⟨_, rfl⟩
      have hn' : n ≤ 1000000 := hn ▸ hs
      have hs' : (Jo.joined xs).size ≤ 140737488355328 := by omega
      have Hs := Lib.hid hs'
      clear hs hs'
      have HPr := Lib.hid (show Jo.Parts wr v xs from HP.out.below (HBX.out.trans (HB.out.mono (by omega))))
      have hp : (-(((n : Int) + 1 + 16) % 128) % 128) = ((padn n : Nat) : Int) := by unfold padn; omega
      have hp2 : ((padn n : Nat) : Int) + 16 - 8 = ((zeros 64 n : Nat) : Int) := by unfold padn zeros; omega
      have hz : zeros 64 n ≤ 256 := by unfold zeros; omega
      have hzs := Jo.zeroStr_size (zeros 64 n)
      have hq1 : ¬ 9223372036854775807 < 1 + (Jo.zeroStr (zeros 64 n)).size := by omega
      have hq2 : ¬ 9223372036854775807 < n + (1 + (Jo.zeroStr (zeros 64 n)).size) := by omega
      clear hzs
      obtain ⟨wo, rfl⟩ : ∃ wo : World, wo = wr := ⟨_, rfl⟩
      go_wp2_with fail
      have kL := fun s : Rg.Later wo.heap.size wo => HKr.out.cellL (show w.heap.size < wo.heap.size by omega) 0 (v := .int .i64 64) rfl s
      refine Rg.wp_region_later_all wo.heap.size (by kernel_rfl) (by kernel_rfl) ?_
      repeat (go_big_quiet_step (fail))
      refine wpQuiet_nil ?_
      rintro _ ⟨s1, rfl⟩
      clear kL kw0
      go_wp2_with (first
        | (go_at_call 69; refine (Jo.join_any _ _ xs (HPr.out.below s1.is) Hs.out (by omega)).mono ?_; rintro e w2 ⟨rfl, hb2⟩; skip; have HB2 := Lib.hid hb2; clear hb2)
        | (go_at_call 70; refine (Jo.repeat_zero _ (zeros 64 n) (by omega)).mono ?_; rintro e w3 ⟨rfl, hb3⟩; skip; have HB3 := Lib.hid hb3; clear hb3))
      clear hq1 hq2 hp hp2
      have HT1 := Lib.hid (show (Jo.joined xs ++ ((⟨#[128]⟩ : ByteArray) ++ Jo.zeroStr (zeros 64 n))).data.toList = (Jo.joined xs).data.toList ++ ([128] ++ List.replicate (zeros 64 n) 0) by rw [bytes_append, bytes_append, Jo.zeroStr_list])
      have HTS := Lib.hid (show (Jo.joined xs ++ ((⟨#[128]⟩ : ByteArray) ++ Jo.zeroStr (zeros 64 n))).size ≤ 1000300 by rw [ByteArray.size_append, ByteArray.size_append, Jo.zeroStr_size, hn]; show n + (1 + zeros 64 n) ≤ _; omega)
      generalize Jo.joined xs ++ ((⟨#[128]⟩ : ByteArray) ++ Jo.zeroStr (zeros 64 n)) = tx at *
      have HKw := Lib.hid (((HKr.out.below s1.is HKr.out.lt).below HB2.out (by have := s1.is.size; omega)).below HB3.out (by have := s1.is.size; have := HB2.out.size; omega))
      have HRw := Lib.hid (((HR8.out.below s1.is hwr).below HB2.out (by have := s1.is.size; omega)).below HB3.out (by have := s1.is.size; have := HB2.out.size; omega))
      have HBw := Lib.hid (show Below w.heap.size w w3 from (((HBX.out.trans (HB.out.mono (by omega))).trans (s1.is.mono (by omega))).trans (HB2.out.mono (by have := s1.is.size; omega))).trans (HB3.out.mono (by have := s1.is.size; have := HB2.out.size; omega)))
      have HBu := Lib.hid (Bu.fresh w3)
      have HBY := Lib.hid (show Below w3.heap.size w3 (w3.alloc (.cells #[.pointer none, .slice none 0 0] 67)) from (Below.refl _ _).alloc (Nat.le_refl _) _)
      go_loopw [13] (fun i wr => ∃ k : Nat, k ≤ 8 ∧ i = .int .i64 (56 - 8 * (k : Int)) ∧ Lib.IsBuilder 67 5 w3.heap.size w3.heap.size (Lib.byteCells ((beBytes 8 (n * 8)).take k)) wr ∧ Below w3.heap.size w3 wr) (fun i _ => (intOf i + 8).toNat)
      case atStart => exact ⟨0, by decide, rfl, HBu.out, HBY.out⟩
      case round =>
        obtain ⟨k, hk, rfl, hU, hb⟩ := hrel
        have HU := Lib.hid hU
        have HBk := Lib.hid hb
        clear hU hb
        by_cases hk8 : k < 8
        · have i0 : 0 ≤ 56 - 8 * (k : Int) := by omega
          have hsz := HBk.out.size
          have hc := be_cells 8 (n * 8) k hk8 (56 - 8 * k) (by omega)
          have HC := Lib.hid hc
          clear hc
          have hle : (Lib.byteCells ((beBytes 8 (n * 8)).take k)).length + 1 ≤ 140737488355328 := by rw [Lib.byteCells_length, List.length_take, beBytes_length]; omega
          have HLE := Lib.hid hle
          clear hle
          go_wp2_with (go_at_call 71; refine (Bu.writeByte _ _ _ _ _ HU.out HLE.out hsz).mono ?_; rintro e w5 ⟨rfl, hU5, hb5⟩; skip; have HU5 := Lib.hid hU5; have HB5 := Lib.hid hb5; clear hU5 hb5)
          go_roundw
          case rel =>
            refine ⟨k + 1, by omega, by go_num, ?_, HBk.out.trans HB5.out⟩
            rw [HC.out]
            exact .inr HU5.out
          case measure => simp [intOf]; omega
        · obtain rfl : k = 8 := by omega
          have hsz := HBk.out.size
          have hq3 : ¬ 9223372036854775807 < tx.size + (beBytes 8 (n * 8)).length := by rw [beBytes_length]; have := HTS.out; omega
          have htake : (beBytes 8 (n * 8)).take 8 = beBytes 8 (n * 8) := List.take_of_length_le (by rw [beBytes_length]; exact Nat.le_refl _)
          have HU8 := Lib.hid (htake ▸ HU.out)
          clear htake
          go_wp2_with (first
            | (go_at_call 53; refine (Tryz.Builder_String_any _ _ _ _ HU8.out hsz).mono ?_; rintro e w6 ⟨rfl, hb6⟩; skip; have HB6 := Lib.hid hb6; clear hb6))
          have HSP := Lib.hid (show (tx ++ (⟨(beBytes 8 (n * 8)).toArray⟩ : ByteArray)).data.toList = padded 64 (Jo.joined xs).data.toList by
            have hbl : (Jo.joined xs).data.toList.length = n := by rw [Array.length_toList]; exact hn
            rw [bytes_append, HT1.out]; unfold padded; rw [hbl])
          have HSZ := Lib.hid (show (tx ++ (⟨(beBytes 8 (n * 8)).toArray⟩ : ByteArray)).size ≤ 1000400 by
            rw [ByteArray.size_append]; have := HTS.out; show tx.size + (beBytes 8 (n * 8)).toArray.size ≤ _; rw [List.size_toArray, beBytes_length]; omega)
          generalize tx ++ (⟨(beBytes 8 (n * 8)).toArray⟩ : ByteArray) = sp at *
          have hm := padded_length64 (Jo.joined xs).data.toList
          have hml : (padded 64 (Jo.joined xs).data.toList).length ≤ 2000000 := by
            rw [← HSP.out, Array.length_toList]; show sp.size ≤ _; exact Nat.le_trans HSZ.out (by decide)
          generalize hbs : (Jo.joined xs).data.toList = bs at *
          have HBS := Lib.hid hbs
          clear hbs
          have HM0 : padded 64 bs = padded 64 bs := rfl
          generalize hmm : padded 64 bs = m at *
          have HM := Lib.hid hmm
          clear hmm HM0
          have HKs := Lib.hid ((HKw.out.below HBk.out HKw.out.lt).below HB6.out HKw.out.lt)
          have HRs := Lib.hid ((HRw.out.below HBk.out HRw.out.lt).below HB6.out HRw.out.lt)
          have HBs := Lib.hid (show Below w.heap.size w w6 from (HBw.out.trans (HBk.out.mono HBw.out.size)).trans (HB6.out.mono HBw.out.size))
          clear hq3
          go_loopw [9] (fun s wr => ∃ (k : Nat) (sv : ByteArray), s = .string sv ∧ sv.data.toList = m.drop (k * 128) ∧ k * 128 ≤ m.length ∧ Row wr V.heap.size 138 (hashTo 64 m k) ∧ Rg.Blk wr w.heap.size 102 k512c ∧ Below w.heap.size w wr) (fun s _ => strLen s)
          case atStart => exact ⟨0, sp, rfl, by rw [HSP.out, Nat.zero_mul]; rfl, by omega, HRs.out, HKs.out, HBs.out⟩
          case round =>
            obtain ⟨k, sv, rfl, hsv, hkm, hR, hK, hb⟩ := hrel
            have hsvl : sv.size = m.length - k * 128 := by
              have := congrArg List.length hsv
              rw [Array.length_toList, List.length_drop] at this; exact this
            have HSV := Lib.hid hsv
            have HR := Lib.hid hR
            have HK := Lib.hid hK
            have HB := Lib.hid hb
            clear hsv hR hK hb
            by_cases hgo : k * 128 < m.length
            · have hge : 128 ≤ sv.size := by omega
              clear hsvl
              have hlw := HR.out.lt
              go_wp2_with fail
              have hi1 : (128 : Int) ≤ sv.size := by omega
              refine Rg.wp_region_later wr.heap.size 4 (by kernel_rfl) (by kernel_rfl) ?_
              simp only [List.take_succ_cons, List.take_zero, List.drop_succ_cons, List.drop_zero]
              repeat (first | (go_big_quiet_want; refine Rg.quiet_load_row 102 _ rfl _ rfl _ _ _ (HK.out.later HK.out.lt) Tryz.underlying102 rfl (by kernel_rfl) ?_; simp only [Act.put, List.setIfInBounds_toArray, List.set_cons_succ, List.set_cons_zero]; go_big_quiet_on) | go_big_quiet_step (fail))
              refine wpQuiet_nil ?_
              rintro _ ⟨s7, rfl⟩
              have hV2 : 2 ≤ V.heap.size := by have := HT.out.size; omega
              have HTx := Lib.hid (show Tables s7.val from (HT.out.below HB.out HT.out.size).below s7.is (by have := HT.out.size; omega))
              have hex : (sv.extract 0 128).size = 128 := by rw [ByteArray.size_extract]; omega
              have Hex := Lib.hid hex
              clear hex
              go_wp2_with (first
                | (go_at_call 72; refine (mix512 _ V.heap.size _ _ Hex.out HTx.out hV2 (HR.out.below s7.is hlw) (hashTo_length _ _ _) (hashTo_lt 64 (by decide) m k)).mono ?_; rintro e w8 ⟨rfl, hR8, hg8⟩; skip; have HRm := Lib.hid hR8; have HGm := Lib.hid hg8; clear hR8 hg8))
              go_roundw
              case rel =>
                have hsv' := HSV.out
                refine ⟨k + 1, _, rfl, ?_, by omega, ?_, blk_grown (HK.out.below s7.is HK.out.lt) HGm.out (by omega), ?_⟩
                · rw [extract_list, hsv', List.drop_drop]
                  congr 1; omega
                · have e : hashTo 64 m (k + 1) = mixed 64 (sv.extract 0 128).data.toList (hashTo 64 m k) := by
                    rw [extract_list0, hsv']; rfl
                  rw [e]; exact HRm.out
                · exact ((HB.out.trans (s7.is.mono (by have := HK.out.lt; omega))).grown HGm.out (by have := s7.is.size; have := HK.out.lt; omega) (fun k hk => by cases hk; omega))
              case measure => simp only [strLen, ByteArray.size_extract]; omega
            · obtain hkl : k * 128 = m.length := by omega
              obtain ⟨wo2, rfl⟩ : ∃ wo2 : World, wo2 = wr := ⟨_, rfl⟩
              have h0s : sv.size = 0 := by omega
              clear hsvl
              have HN8 := Lib.hid (show (u64s (hashTo 64 m k)).size = 8 by simp [u64s, hashTo_length])
              go_wp2_with (first
                | (refine wpList_load_row rfl 138 _ rfl V.heap.size rfl _ _ _ _ (Rg.Blk.alloc HR.out _) Tryz.underlying138 rfl (by rw [HN8.out]; rfl) ?_))
              clear h0s
              have HBo := Lib.hid (show Below w.heap.size w wo2 from HB.out)
              have HKo := Lib.hid (show Rg.Blk wo2 w.heap.size 102 k512c from HK.out)
              have HBu2 := Lib.hid (Bu.fresh wo2)
              have HBY2 := Lib.hid (show Below wo2.heap.size wo2 (wo2.alloc (.cells #[.pointer none, .slice none 0 0] 67)) from (Below.refl _ _).alloc (Nat.le_refl _) _)
              have hhl := hashTo_length 64 m k
              have HSHA := Lib.hid (show sha 64 bs = outBytes 64 (hashTo 64 m k) by
                unfold sha; rw [HM.out]; congr 2; omega)
              have hwo : w.heap.size < wo2.heap.size := HKo.out.lt
              generalize hashTo 64 m k = hs at *
              go_loopw [83] (fun i wr => ∃ j : Nat, j ≤ 8 ∧ i = .int .i64 j ∧ Lib.IsBuilder 67 5 wo2.heap.size wo2.heap.size (Lib.byteCells (outBytes 64 (hs.take j))) wr ∧ Below wo2.heap.size wo2 wr) (fun i _ => 8 - (intOf i).toNat)
              case atStart => exact ⟨0, by decide, rfl, HBu2.out, HBY2.out⟩
              case round =>
                obtain ⟨j, hj, rfl, hU, hb⟩ := hrel
                have HU2 := Lib.hid hU
                have HBk2 := Lib.hid hb
                clear hU hb
                by_cases hj8 : j < 8
                · have hidx := fun w => index_words (P := Tryz.prog) 138 50 8 hs j Tryz.underlying138 Tryz.underlying50 (by kernel_rfl) hhl hj8 w
                  have kw0 := (HKo.out.below HBk2.out hwo).cell 0 (v := .int .i64 64) rfl
                  obtain ⟨wo3, rfl⟩ : ∃ wo3 : World, wo3 = wr := ⟨_, rfl⟩
                  have hd : decide ((j : Int) < 8) = true := by simp; omega
                  go_wp2_with fail
                  clear hd
                  clear hidx kw0
                  go_loopw [17] (fun i wr => ∃ l : Nat, l ≤ 8 ∧ i = .int .i64 (56 - 8 * (l : Int)) ∧ Lib.IsBuilder 67 5 wo2.heap.size wo2.heap.size (Lib.byteCells (outBytes 64 (hs.take j)) ++ Lib.byteCells ((beBytes 8 (nth hs j)).take l)) wr ∧ Below wo2.heap.size wo2 wr) (fun i _ => (intOf i + 8).toNat)
                  case atStart => exact ⟨0, by omega, rfl, by rw [show (beBytes 8 (nth hs j)).take 0 = [] from rfl, show Lib.byteCells [] = [] from rfl, List.append_nil]; exact HU2.out, HBk2.out⟩
                  case round =>
                    obtain ⟨l, hl, rfl, hU, hb⟩ := hrel
                    have HU3 := Lib.hid hU
                    have HBk3 := Lib.hid hb
                    have hsz := HBk3.out.size
                    clear hU hb
                    by_cases hl8 : l < 8
                    · have i0 : 0 ≤ 56 - 8 * (l : Int) := by omega
                      have HC := Lib.hid (be_cells 8 (nth hs j) l hl8 (56 - 8 * l) (by omega))
                      have hle : (Lib.byteCells (outBytes 64 (hs.take j)) ++ Lib.byteCells ((beBytes 8 (nth hs j)).take l)).length + 1 ≤ 140737488355328 := by
                        rw [List.length_append, Lib.byteCells_length, Lib.byteCells_length, outBytes_length, List.length_take, List.length_take, beBytes_length]
                        have : min j hs.length * (64 / 8) ≤ 8 * 8 := Nat.mul_le_mul (by omega) (by decide)
                        omega
                      have HLE := Lib.hid hle
                      clear hle
                      go_wp2_with (go_at_call 71; refine (Bu.writeByte _ _ _ _ _ HU3.out HLE.out hsz).mono ?_; rintro e w9 ⟨rfl, hU9, hb9⟩; skip; have HU9 := Lib.hid hU9; have HB9 := Lib.hid hb9; clear hU9 hb9)
                      go_roundw
                      case rel =>
                        have hU10 : Lib.IsBuilder 67 5 wo2.heap.size wo2.heap.size (Lib.byteCells (outBytes 64 (hs.take j)) ++ Lib.byteCells ((beBytes 8 (nth hs j)).take (l + 1))) w9 := by
                          rw [HC.out, ← List.append_assoc]
                          exact .inr HU9.out
                        first
                          | exact ⟨l + 1, by omega, by go_num, hU10, HBk3.out.trans HB9.out⟩
                          | ((repeat apply Exists.intro); refine ⟨?_, rfl⟩; exact ⟨l + 1, by omega, by go_num, hU10, HBk3.out.trans HB9.out⟩)
                      case measure => simp [intOf]; omega
                    · obtain rfl : l = 8 := by omega
                      go_wp2_with fail
                      go_roundw
                      case rel =>
                        have hU11 : Lib.IsBuilder 67 5 wo2.heap.size wo2.heap.size (Lib.byteCells (outBytes 64 (hs.take (j + 1)))) wr := by
                          rw [outBytes_snoc 64 hs j (by omega)]
                          have := HU3.out
                          rwa [show (beBytes 8 (nth hs j)).take 8 = beBytes 8 (nth hs j) from List.take_of_length_le (by rw [beBytes_length]; exact Nat.le_refl _)] at this
                        first
                          | exact ⟨j + 1, by omega, by go_num, hU11, HBk3.out⟩
                          | ((repeat apply Exists.intro); refine ⟨?_, rfl⟩; exact ⟨j + 1, by omega, by go_num, hU11, HBk3.out⟩)
                      case measure => simp [intOf]; omega
                · obtain rfl : j = 8 := by omega
                  have hsz := HBk2.out.size
                  have HU8b := Lib.hid (show Lib.IsBuilder 67 5 wo2.heap.size wo2.heap.size (Lib.byteCells (outBytes 64 hs)) wr from (show hs.take 8 = hs from List.take_of_length_le (by omega)) ▸ HU2.out)
                  go_wp2_with (first
                    | (go_at_call 53; refine (Tryz.Builder_String_any _ _ _ _ HU8b.out hsz).mono ?_; rintro e w6 ⟨rfl, hb6⟩; skip; have HB6b := Lib.hid hb6; clear hb6))
                  go_ret
                  exact ⟨by rw [HBS.out, HSHA.out]; rfl, (HBo.out.trans (HBk2.out.mono (by omega))).trans (HB6b.out.mono (by omega))⟩
end Go.Proofs.YtfaeigbfnjkojaaGreatDoor.Sha
