/- Sums with a key: of the program and of the reference. -/
import Derived.Test.YtoehmjkgjleaaaaDoorHmacPad
set_option linter.unusedVariables false
set_option linter.unusedSimpArgs false
namespace Go.Proofs.YtoehmjkgjleaaaaDoor.Sha
open Go.RowKit Go.Proofs.YtoehmjkgjleaaaaDoor.Cl Go.Proofs.YtoehmjkgjleaaaaDoor.Cv Go.Proofs.YtoehmjkgjleaaaaDoor.Ow
theorem padL_get (key : List UInt8) (b : UInt8) (j : Nat) (hj : j < 64) : (padL key b)[j]? = some ((keyB key).getD j 0 ^^^ b) := by
  unfold padL fill64
  simp [hj]
set_option maxRecDepth 20000 in
set_option maxHeartbeats 2000000 in
theorem Refpad_any (w : World) (key : ByteArray) (by' : UInt8) (b : Int) (hb : b = by'.toNat) (hs : key.size ≤ 1000000) :
    Calls Tryd.prog 31 #[.string key, .int .u8 b] w fun e w' => e = .returned (.string (mkS (padL key.data.toList by'))) ∧ Below w.heap.size w w' := by
  subst hb
  have HKL := Lib.hid (show key.data.toList.length = key.size from Array.length_toList)
  by_cases hc : 64 < key.size
  · have hd0 : decide ((64 : Int) < key.size) = true := by rw [decide_eq_true_eq]; omega
    go_enter Tryd.func31, Tryd.ntmps31
    go_wp2_with (go_at_call 14; refine (RefSum256_any _ _ hs).mono ?_; rintro e w1 ⟨rfl, hb1⟩; skip
                 have HB0 := Lib.hid hb1
                 obtain ⟨k, hk⟩ : ∃ k, shaS 32 key = k := ⟨_, rfl⟩
                 rw [hk]
                 have HK := Lib.hid (show k.data.toList = keyB key.data.toList by unfold keyB; rw [HKL.out, if_pos hc, ← hk]; unfold shaS; rfl)
                 have HO := Lib.hid (show Owns (w1.alloc (.cells #[] 5)) w1.heap.size 5 (.slice (some ⟨w1.heap.size, 0, none⟩) 0 0) (bv ((padL key.data.toList by').take 0)) from Owns.new w1 _ _ [] (Nat.le_refl _) (by decide))
                 have HBX := Lib.hid (show Below w1.heap.size w1 (w1.alloc (.cells #[] 5)) from (Below.refl _ _).alloc (Nat.le_refl _) _)
                 clear hb1 hk)
    go_loopw [5, 6, 7] (fun v i _ wr => ∃ j : Nat, j ≤ 64 ∧ i = .int .i64 j ∧ Owns wr w1.heap.size 5 v (bv ((padL key.data.toList by').take j)) ∧ Below w1.heap.size w1 wr) (fun _ i _ _ => 64 - (intOf i).toNat)
    case atStart => exact ⟨0, by decide, rfl, HO.out, HBX.out⟩
    case round =>
      obtain ⟨j, hj, rfl, hO, hb⟩ := hrel
      have HO1 := Lib.hid hO
      have HB1 := Lib.hid hb
      have hszb := hb.size
      clear hO hb HO HBX
      by_cases hj64 : j < 64
      · have hd : decide ((j : Int) < 64) = true := by rw [decide_eq_true_eq]; omega
        have HPG := Lib.hid (padL_get key.data.toList by' j hj64)
        have hll : (bv ((padL key.data.toList by').take j)).length + 1 ≤ 140737488355328 := by rw [bv_length, List.length_take]; omega
        by_cases hjk : j < k.size
        · have hik : (j : Int) < k.size := by omega
          have hd2 : decide (j < k.size) = true := by rw [decide_eq_true_eq]; exact hjk
          have HE := Lib.hid (show (padL key.data.toList by').take (j + 1) = (padL key.data.toList by').take j ++ [k[j] ^^^ by'] by
            have hk2 : j < k.data.toList.length := by rw [Array.length_toList]; exact hjk
            have e : (keyB key.data.toList).getD j 0 = k[j] := by rw [← HK.out, List.getD_eq_getElem?_getD, List.getElem?_eq_getElem hk2]; rfl
            rw [List.take_add_one, HPG.out, e]; rfl)
          obtain ⟨d, hd'⟩ : ∃ d, k[j] ^^^ by' = d := ⟨_, rfl⟩
          have hxor : bits .xor .u8 (k[j].toNat : Int) (by'.toNat : Int) = ((d.toNat : Nat) : Int) := by rw [← hd']; exact xor_u8 _ by'
          have HE' := Lib.hid (hd' ▸ HE.out)
          clear hd' HE
          go_wp2_with (at_builtin; refine app1 rfl _ _ _ rfl Tryd.underlying28 infoU8 rfl (by decide) HO1.out rfl rfl rfl ?_ hszb ?_
                       · simpa using hll
                       intro v' w12 hO' hg' hat
                       rw [← bv_one d d.toNat rfl, ← bv_append, ← HE'.out] at hO'
                       have HO' := Lib.hid hO'
                       have HB' := Lib.hid (HB1.out.grown hg' hszb (HO1.out.ge (Nat.le_refl _)))
                       clear hO' hg' hat)
          go_roundw
          case rel =>
            first
              | exact ⟨j + 1, by omega, by go_num, HO'.out, HB'.out⟩
              | ((repeat apply Exists.intro); refine ⟨?_, rfl⟩; exact ⟨j + 1, by omega, by go_num, HO'.out, HB'.out⟩)
          case measure => simp [intOf]; omega
        · have hd2 : decide (j < k.size) = false := by rw [decide_eq_false_iff_not]; exact hjk
          have hge : k.size ≤ j := by omega
          have HE := Lib.hid (show (padL key.data.toList by').take (j + 1) = (padL key.data.toList by').take j ++ [(0 : UInt8) ^^^ by'] by
            have e : (keyB key.data.toList).getD j 0 = 0 := by rw [← HK.out, List.getD_eq_getElem?_getD, List.getElem?_eq_none (by rw [Array.length_toList]; exact hge)]; rfl
            rw [List.take_add_one, HPG.out, e]; rfl)
          obtain ⟨d, hd'⟩ : ∃ d, (0 : UInt8) ^^^ by' = d := ⟨_, rfl⟩
          have hxor : bits .xor .u8 0 (by'.toNat : Int) = ((d.toNat : Nat) : Int) := by rw [← hd']; exact xor_u8 0 by'
          have HE' := Lib.hid (hd' ▸ HE.out)
          clear hd' HE
          go_wp2_with (at_builtin; refine app1 rfl _ _ _ rfl Tryd.underlying28 infoU8 rfl (by decide) HO1.out rfl rfl rfl ?_ hszb ?_
                       · simpa using hll
                       intro v' w12 hO' hg' hat
                       rw [← bv_one d d.toNat rfl, ← bv_append, ← HE'.out] at hO'
                       have HO' := Lib.hid hO'
                       have HB' := Lib.hid (HB1.out.grown hg' hszb (HO1.out.ge (Nat.le_refl _)))
                       clear hO' hg' hat)
          go_roundw
          case rel =>
            first
              | exact ⟨j + 1, by omega, by go_num, HO'.out, HB'.out⟩
              | ((repeat apply Exists.intro); refine ⟨?_, rfl⟩; exact ⟨j + 1, by omega, by go_num, HO'.out, HB'.out⟩)
          case measure => simp [intOf]; omega
      · obtain rfl : j = 64 := by omega
        have HF := Lib.hid (HO1.out.cast (by rw [List.take_of_length_le (Nat.le_of_eq (padL_length _ _))]))
        go_wp2_with (refine str rfl 28 5 9 _ rfl Tryd.underlying28 Tryd.underlying5 Tryd.underlying9 HF.out rfl ?_; skip)
        go_ret
        exact ⟨rfl, HB0.out.trans (HB1.out.mono HB0.out.size)⟩
  · have hd0 : decide ((64 : Int) < key.size) = false := by rw [decide_eq_false_iff_not]; omega
    have HK := Lib.hid (show key.data.toList = keyB key.data.toList by unfold keyB; rw [HKL.out, if_neg hc])
    obtain ⟨k, hk⟩ : ∃ k : ByteArray, k = key := ⟨_, rfl⟩
    subst hk
    have HO := Lib.hid (show Owns (w.alloc (.cells #[] 5)) w.heap.size 5 (.slice (some ⟨w.heap.size, 0, none⟩) 0 0) (bv ((padL k.data.toList by').take 0)) from Owns.new w _ _ [] (Nat.le_refl _) (by decide))
    have HBX := Lib.hid (show Below w.heap.size w (w.alloc (.cells #[] 5)) from (Below.refl _ _).alloc (Nat.le_refl _) _)
    go_enter Tryd.func31, Tryd.ntmps31
    go_wp2_with fail
    go_loopw [5, 6, 7] (fun v i _ wr => ∃ j : Nat, j ≤ 64 ∧ i = .int .i64 j ∧ Owns wr w.heap.size 5 v (bv ((padL k.data.toList by').take j)) ∧ Below w.heap.size w wr) (fun _ i _ _ => 64 - (intOf i).toNat)
    case atStart => exact ⟨0, by decide, rfl, HO.out, HBX.out⟩
    case round =>
      obtain ⟨j, hj, rfl, hO, hb⟩ := hrel
      have HO1 := Lib.hid hO
      have HB1 := Lib.hid hb
      have hszb := hb.size
      clear hO hb HO HBX
      by_cases hj64 : j < 64
      · have hd : decide ((j : Int) < 64) = true := by rw [decide_eq_true_eq]; omega
        have HPG := Lib.hid (padL_get k.data.toList by' j hj64)
        have hll : (bv ((padL k.data.toList by').take j)).length + 1 ≤ 140737488355328 := by rw [bv_length, List.length_take]; omega
        by_cases hjk : j < k.size
        · have hik : (j : Int) < k.size := by omega
          have hd2 : decide (j < k.size) = true := by rw [decide_eq_true_eq]; exact hjk
          have HE := Lib.hid (show (padL k.data.toList by').take (j + 1) = (padL k.data.toList by').take j ++ [k[j] ^^^ by'] by
            have hk2 : j < k.data.toList.length := by rw [Array.length_toList]; exact hjk
            have e : (keyB k.data.toList).getD j 0 = k[j] := by rw [← HK.out, List.getD_eq_getElem?_getD, List.getElem?_eq_getElem hk2]; rfl
            rw [List.take_add_one, HPG.out, e]; rfl)
          obtain ⟨d, hd'⟩ : ∃ d, k[j] ^^^ by' = d := ⟨_, rfl⟩
          have hxor : bits .xor .u8 (k[j].toNat : Int) (by'.toNat : Int) = ((d.toNat : Nat) : Int) := by rw [← hd']; exact xor_u8 _ by'
          have HE' := Lib.hid (hd' ▸ HE.out)
          clear hd' HE
          go_wp2_with (at_builtin; refine app1 rfl _ _ _ rfl Tryd.underlying28 infoU8 rfl (by decide) HO1.out rfl rfl rfl ?_ hszb ?_
                       · simpa using hll
                       intro v' w12 hO' hg' hat
                       rw [← bv_one d d.toNat rfl, ← bv_append, ← HE'.out] at hO'
                       have HO' := Lib.hid hO'
                       have HB' := Lib.hid (HB1.out.grown hg' hszb (HO1.out.ge (Nat.le_refl _)))
                       clear hO' hg' hat)
          go_roundw
          case rel =>
            first
              | exact ⟨j + 1, by omega, by go_num, HO'.out, HB'.out⟩
              | ((repeat apply Exists.intro); refine ⟨?_, rfl⟩; exact ⟨j + 1, by omega, by go_num, HO'.out, HB'.out⟩)
          case measure => simp [intOf]; omega
        · have hd2 : decide (j < k.size) = false := by rw [decide_eq_false_iff_not]; exact hjk
          have hge : k.size ≤ j := by omega
          have HE := Lib.hid (show (padL k.data.toList by').take (j + 1) = (padL k.data.toList by').take j ++ [(0 : UInt8) ^^^ by'] by
            have e : (keyB k.data.toList).getD j 0 = 0 := by rw [← HK.out, List.getD_eq_getElem?_getD, List.getElem?_eq_none (by rw [Array.length_toList]; exact hge)]; rfl
            rw [List.take_add_one, HPG.out, e]; rfl)
          obtain ⟨d, hd'⟩ : ∃ d, (0 : UInt8) ^^^ by' = d := ⟨_, rfl⟩
          have hxor : bits .xor .u8 0 (by'.toNat : Int) = ((d.toNat : Nat) : Int) := by rw [← hd']; exact xor_u8 0 by'
          have HE' := Lib.hid (hd' ▸ HE.out)
          clear hd' HE
          go_wp2_with (at_builtin; refine app1 rfl _ _ _ rfl Tryd.underlying28 infoU8 rfl (by decide) HO1.out rfl rfl rfl ?_ hszb ?_
                       · simpa using hll
                       intro v' w12 hO' hg' hat
                       rw [← bv_one d d.toNat rfl, ← bv_append, ← HE'.out] at hO'
                       have HO' := Lib.hid hO'
                       have HB' := Lib.hid (HB1.out.grown hg' hszb (HO1.out.ge (Nat.le_refl _)))
                       clear hO' hg' hat)
          go_roundw
          case rel =>
            first
              | exact ⟨j + 1, by omega, by go_num, HO'.out, HB'.out⟩
              | ((repeat apply Exists.intro); refine ⟨?_, rfl⟩; exact ⟨j + 1, by omega, by go_num, HO'.out, HB'.out⟩)
          case measure => simp [intOf]; omega
      · obtain rfl : j = 64 := by omega
        have HF := Lib.hid (HO1.out.cast (by rw [List.take_of_length_le (Nat.le_of_eq (padL_length _ _))]))
        go_wp2_with (refine str rfl 28 5 9 _ rfl Tryd.underlying28 Tryd.underlying5 Tryd.underlying9 HF.out rfl ?_; skip)
        go_ret
        exact ⟨rfl, HB1.out⟩

theorem parts_two (w : World) (T : TypeId) (a b : ByteArray) : Jo.Parts (w.alloc (.cells #[.string a, .string b] T)) (.slice (some ⟨w.heap.size, 0, none⟩) 2 2) [a, b] :=
  .inr ⟨w.heap.size, 0, 2, rfl, fun j x hx => by
    match j, hx with
    | 0, hx => simp at hx; subst hx; exact (Rg.Blk.new w _ _).cell 0 rfl
    | 1, hx => simp at hx; subst hx; exact (Rg.Blk.new w _ _).cell 1 rfl, by simp, Nat.le_refl _⟩
theorem joined_cons (a : ByteArray) (xs : List ByteArray) : (Jo.joined (a :: xs)).data.toList = a.data.toList ++ (Jo.joined xs).data.toList := by rw [Jo.joined_list, Jo.joined_list, List.flatMap_cons]
set_option maxRecDepth 20000 in
set_option maxHeartbeats 2000000 in
theorem HSum_any (w : World) (key : ByteArray) (A : Option Addr) (n c : Nat) (xs : List ByteArray) (hn : xs.length = n) (hR : Rd w A (xs.map Value.string)) (hN : n ≤ 1000) (hj : (Jo.joined xs).size ≤ 100000) (hk : key.size ≤ 1000000) (hT : Tables w) :
    Calls Tryd.prog 19 #[.string key, .slice A n c] w fun e w' => e = .returned (.agg (bytesV (hmacL key.data.toList (Jo.joined xs).data.toList))) ∧ Below w.heap.size w w' := by
  have HT := Lib.hid hT
  have HR := Lib.hid hR
  have HN := Lib.hid hn
  obtain ⟨p1, hp1⟩ : ∃ p, mkS (padL key.data.toList 54) = p := ⟨_, rfl⟩
  obtain ⟨p2, hp2⟩ : ∃ p, mkS (padL key.data.toList 92) = p := ⟨_, rfl⟩
  have HP1 := Lib.hid (show p1.data.toList = padL key.data.toList 54 by rw [← hp1]; rfl)
  have HP2 := Lib.hid (show p2.data.toList = padL key.data.toList 92 by rw [← hp2]; rfl)
  have hl1 : p1.size = 64 := by rw [← hp1, mkS_size, padL_length]
  have hl2 : p2.size = 64 := by rw [← hp2, mkS_size, padL_length]
  have HL1 := Lib.hid hl1
  have HL2 := Lib.hid hl2
  have HC1 : Hid (∀ W : World, Tables W → Calls Tryd.prog 30 #[.string key, .int .u8 54] W fun e w' => e = .returned (.string p1) ∧ Below W.heap.size W w') := Lib.hid (fun W h => hp1 ▸ pad_any W key 54 54 rfl h hk)
  have HC2 : Hid (∀ W : World, Tables W → Calls Tryd.prog 30 #[.string key, .int .u8 92] W fun e w' => e = .returned (.string p2) ∧ Below W.heap.size W w') := Lib.hid (fun W h => hp2 ▸ pad_any W key 92 92 rfl h hk)
  have hjs : (Jo.joined (p1 :: xs)).size ≤ 1000000 := by
    have := congrArg List.length (joined_cons p1 xs)
    rw [List.length_append, Array.length_toList, Array.length_toList, Array.length_toList] at this
    have e1 : (Jo.joined (p1 :: xs)).data.size = (Jo.joined (p1 :: xs)).size := rfl
    have e2 : p1.data.size = p1.size := rfl
    have e3 : (Jo.joined xs).data.size = (Jo.joined xs).size := rfl
    omega
  have HJ1 := Lib.hid hjs
  have HD := Lib.hid (show (Jo.joined (p1 :: xs)).data.toList = padL key.data.toList 54 ++ (Jo.joined xs).data.toList by rw [joined_cons, HP1.out])
  clear hT hR hn hp1 hp2 hl1 hl2 hjs
  obtain ⟨d1, hd1⟩ : ∃ d, sha 32 (Jo.joined (p1 :: xs)).data.toList = d := ⟨_, rfl⟩
  have HD1 := Lib.hid hd1
  have hd1l : d1.length = 32 := by rw [← hd1]; exact sha_length 32 (by decide) _
  have HD1L := Lib.hid hd1l
  have HZ1 := Lib.hid (show (bytesV d1).size = 32 by rw [bytesV_size, hd1l])
  have HMK := Lib.hid (show mkS d1 = (⟨d1.toArray⟩ : ByteArray) from rfl)
  have HDS := Lib.hid (show (mkS d1).size = 32 by rw [mkS_size, hd1l])
  obtain ⟨d2, hd2⟩ : ∃ d, hmacL key.data.toList (Jo.joined xs).data.toList = d := ⟨_, rfl⟩
  have HD2 := Lib.hid (show sha 32 (Jo.joined [p2, mkS d1]).data.toList = d2 by
    rw [← hd2]; unfold hmacL; rw [← HD.out, hd1, Jo.joined_list]; simp [HP2.out, mkS_list])
  have HZ2 := Lib.hid (show (bytesV d2).size = 32 by rw [bytesV_size, ← hd2, hmacL_length])
  rw [hd2]
  clear hd1 hd1l hd2
  have tok := True.intro
  go_enter Tryd.func19, Tryd.ntmps19
  go_wp2_with fail
  generalize hX : World.alloc w _ = X
  have HBX := Lib.hid (show Below w.heap.size w X by subst hX; exact (Below.refl _ _).alloc (Nat.le_refl _) _)
  have HRX := Lib.hid (show ∃ cs : Array Value, cs.size = 32 ∧ Rg.Blk X w.heap.size 24 cs by subst hX; exact ⟨_, rfl, Rg.Blk.new _ _ _⟩)
  have hXs : w.heap.size < X.heap.size := by obtain ⟨cs, _, h⟩ := HRX.out; exact h.lt
  clear hX
  go_wp2_with (first
    | (have _t := tok; go_at_call 30; refine (HC1.out X (HT.out.below HBX.out HT.out.size)).mono ?_; rintro e w1 ⟨rfl, hb1⟩; skip
       have HB1 := Lib.hid (HBX.out.trans (hb1.mono (Nat.le_of_lt hXs))); have HR1 := Lib.hid (by obtain ⟨cs, h1, h2⟩ := HRX.out; exact (show ∃ cs : Array Value, cs.size = 32 ∧ Rg.Blk w1 w.heap.size 24 cs from ⟨cs, h1, h2.below hb1 h2.lt⟩)); have hw1 : w.heap.size < w1.heap.size := Nat.lt_of_lt_of_le hXs hb1.size; clear hb1 _t tok)
    | (at_builtin; refine app rfl _ _ _ rfl Tryd.underlying31 infoStr rfl (by decide) (Owns.new w1 w1.heap.size 9 [.string p1] (Nat.le_refl _) (show 1 ≤ maxLen by decide)) rfl rfl (by rw [List.length_map]; exact HN.out) ((HR.out.below HB1.out).below ((Below.refl _ _).alloc (Nat.le_refl _) _)) ?_ ?_ ?_ ?_
       · intro u hu; obtain ⟨x, _, rfl⟩ := List.mem_map.1 hu; rfl
       · simp; omega
       · simp
       intro v' w2 hO' hg' _
       have HO2 := Lib.hid (show Owns w2 w1.heap.size 9 v' ((p1 :: xs).map Value.string) from hO')
       have HB12 := Lib.hid (show Below w1.heap.size w1 w2 from ((Below.refl _ _).alloc (Nat.le_refl _) _).grown hg' (by simp) (fun k hk => by cases hk; exact Nat.le_refl _))
       have HP := Lib.hid (parts_of HO2.out)
       have HB2 := Lib.hid (HB1.out.trans (HB12.out.mono (Nat.le_of_lt hw1)))
       have HT2 := Lib.hid (HT.out.below HB2.out HT.out.size)
       clear hO' hg')
    | (go_at_call 12; have _t := HP; refine (Sum256_any _ _ (p1 :: xs) HT2.out HP.out HJ1.out (by simp [HN.out]; omega)).mono ?_; rintro e w3 ⟨rfl, hb3⟩; skip
       rw [HD1.out]
       have HB3 := Lib.hid (HB2.out.trans (hb3.mono HB2.out.size)); have HR3 := Lib.hid (by obtain ⟨cs, h1, h2⟩ := HR1.out; exact (show ∃ cs : Array Value, cs.size = 32 ∧ Rg.Blk w3 w.heap.size 24 cs from ⟨cs, h1, (h2.below HB12.out h2.lt).below hb3 (Nat.lt_of_lt_of_le h2.lt HB12.out.size)⟩)); have hw3 : w.heap.size < w3.heap.size := Nat.lt_of_lt_of_le hw1 (Nat.le_trans HB12.out.size hb3.size); clear hb3 _t HP; have tok2 := True.intro)
    | (have _t := tok2
       refine store_blk rfl 24 _ _ rfl w3.heap.size (bytesV d1) _ 24 rfl rfl (Rg.Blk.new w3 _ _) (by rw [HZ1.out]; rfl) (by rw [HZ1.out]; rfl) (bytesV_one _) ?_
       intro V hV hgV
       have HV := Lib.hid hV
       have HBV := Lib.hid (show Below w3.heap.size w3 V from ((Below.refl _ _).alloc (Nat.le_refl _) _).grown hgV (by simp) (fun k hk => by cases hk; exact Nat.le_refl _))
       have HB4 := Lib.hid (HB3.out.trans (HBV.out.mono (Nat.le_of_lt hw3)))
       have HR4 := Lib.hid (by obtain ⟨cs, h1, h2⟩ := HR3.out; exact (show ∃ cs : Array Value, cs.size = 32 ∧ Rg.Blk V w.heap.size 24 cs from ⟨cs, h1, h2.below HBV.out h2.lt⟩))
       have HT4 := Lib.hid (HT.out.below HB4.out HT.out.size)
       clear hV hgV _t tok2))
  try simp only [Act.put]
  have hlV := HV.out.lt
  have hVs : w3.heap.size ≤ V.heap.size := HBV.out.size
  have R1 := fun x : Rg.Later V.heap.size V => (run_string_len (P := Tryd.prog) x.val 28 5 9 Tryd.underlying28 Tryd.underlying5 Tryd.underlying9 w3.heap.size 0 32 32 d1 HD1L.out ((Bytes.of_blk HV.out).below x.is hlV)).trans (by rw [← HMK.out])
  refine Rg.wp_region_later V.heap.size 4 (by kernel_rfl) (by kernel_rfl) ?_
  simp only [List.take_succ_cons, List.take_zero, List.drop_succ_cons, List.drop_zero]
  repeat (go_big_quiet_step ((go_at_call 30; exact Rg.later_of (Nat.le_refl _) (HC2.out _ (HT4.out.below (Rg.Later.is _) HT4.out.size)))))
  refine wpQuiet_nil ?_
  rintro _ ⟨s9, rfl⟩
  clear R1
  have h9 := s9.is.size
  have HR9 := Lib.hid (by obtain ⟨cs, h1, h2⟩ := HR4.out; exact (show ∃ cs : Array Value, cs.size = 32 ∧ Rg.Blk s9.val w.heap.size 24 cs from ⟨cs, h1, h2.below s9.is h2.lt⟩))
  have HT9 := Lib.hid (HT4.out.below s9.is HT4.out.size)
  have HB9 := Lib.hid (HB4.out.trans (s9.is.mono HB4.out.size))
  have hw9 : w.heap.size < s9.val.heap.size := by omega
  go_wp2_with (first
    | (go_at_call 12; refine (Sum256_any _ _ [p2, mkS d1] (HT9.out.below ((Below.refl _ _).alloc (Nat.le_refl _) _) HT9.out.size) (parts_two s9.val _ p2 (mkS d1)) (by rw [joined_size]; simp [HP2.out, padL_length, mkS_list, HD1L.out]) (by simp)).mono ?_; rintro e w10 ⟨rfl, hb10⟩; skip
       rw [HD2.out]
       have HB10' := Lib.hid (show Below s9.val.heap.size s9.val w10 from ((Below.refl _ _).alloc (Nat.le_refl _) _).trans (hb10.mono (by simp)))
       have HR10 := Lib.hid (by obtain ⟨cs, h1, h2⟩ := HR9.out; exact (show ∃ cs : Array Value, cs.size = 32 ∧ Rg.Blk w10 w.heap.size 24 cs from ⟨cs, h1, h2.below HB10'.out h2.lt⟩))
       have HB10 := Lib.hid (HB9.out.trans (HB10'.out.mono (Nat.le_of_lt hw9)))
       clear hb10)
    | (obtain ⟨cs, hcs, hB⟩ := HR10.out
       refine store_blk rfl 24 _ _ rfl w.heap.size (bytesV d2) cs 24 rfl rfl hB (by rw [HZ2.out]; rfl) (by rw [HZ2.out]; exact hcs) (bytesV_one _) ?_
       intro Z hZ hgZ; have HZZ := Lib.hid hZ; have HGZ := Lib.hid hgZ; clear hZ hgZ hcs hB))
  exact bodyPost_ret (v := .agg (bytesV d2))
    (results_cell_row Tryd.results19 _ _ w.heap.size 24 _ (0, 0) _ rfl HZZ.out Tryd.underlying24 rfl (by rw [HZ2.out]; rfl)) rfl
    ⟨rfl, HB10.out.grown HGZ.out HB10.out.size (fun k hk => by cases hk; exact Nat.le_refl _)⟩

set_option maxRecDepth 20000 in
set_option maxHeartbeats 1000000 in
theorem RefHSum_any (w : World) (key s : ByteArray) (hk : key.size ≤ 1000000) (hs : s.size ≤ 100000) :
    Calls Tryd.prog 20 #[.string key, .string s] w fun e w' => e = .returned (.string (mkS (hmacL key.data.toList s.data.toList))) ∧ Below w.heap.size w w' := by
  obtain ⟨p1, hp1⟩ : ∃ p, mkS (padL key.data.toList 54) = p := ⟨_, rfl⟩
  obtain ⟨p2, hp2⟩ : ∃ p, mkS (padL key.data.toList 92) = p := ⟨_, rfl⟩
  have HP1 := Lib.hid (show p1.data.toList = padL key.data.toList 54 by rw [← hp1]; rfl)
  have HP2 := Lib.hid (show p2.data.toList = padL key.data.toList 92 by rw [← hp2]; rfl)
  have hl1 : p1.size = 64 := by rw [← hp1, mkS_size, padL_length]
  have hl2 : p2.size = 64 := by rw [← hp2, mkS_size, padL_length]
  have HC1 : Hid (∀ W : World, Calls Tryd.prog 31 #[.string key, .int .u8 54] W fun e w' => e = .returned (.string p1) ∧ Below W.heap.size W w') := Lib.hid (fun W => hp1 ▸ Refpad_any W key 54 54 rfl hk)
  have HC2 : Hid (∀ W : World, Calls Tryd.prog 31 #[.string key, .int .u8 92] W fun e w' => e = .returned (.string p2) ∧ Below W.heap.size W w') := Lib.hid (fun W => hp2 ▸ Refpad_any W key 92 92 rfl hk)
  have HS1 := Lib.hid (show (p1 ++ s).size ≤ 1000000 by rw [ByteArray.size_append, hl1]; omega)
  have HE1 := Lib.hid (show (p1 ++ s).data.toList = padL key.data.toList 54 ++ s.data.toList by rw [bytes_append, HP1.out])
  obtain ⟨x, hx⟩ : ∃ x, shaS 32 (p1 ++ s) = x := ⟨_, rfl⟩
  have hxs : x.size = 32 := by rw [← hx]; unfold shaS; show (sha 32 _).toArray.size = 32; rw [List.size_toArray, sha_length 32 (by decide)]
  have HX := Lib.hid hx
  have HXL := Lib.hid (show x.data.toList = sha 32 (padL key.data.toList 54 ++ s.data.toList) by rw [← hx, ← HE1.out]; unfold shaS; rfl)
  have HS2 := Lib.hid (show (p2 ++ x).size ≤ 1000000 by rw [ByteArray.size_append, hl2, hxs]; decide)
  have HF := Lib.hid (show shaS 32 (p2 ++ x) = mkS (hmacL key.data.toList s.data.toList) by
    unfold shaS hmacL; rw [bytes_append, HP2.out, HXL.out]; rfl)
  have hq1 : ¬ 9223372036854775807 < p1.size + s.size := by omega
  have hq2 : ¬ 9223372036854775807 < p2.size + x.size := by omega
  have tok := True.intro
  clear hp1 hp2 hl1 hl2 hx hxs
  go_enter Tryd.func20, Tryd.ntmps20
  go_wp2_with (first
    | (go_at_call 31; have _t := tok; refine (HC2.out _).mono ?_; rintro e w1 ⟨rfl, hb1⟩; skip; have HB1 := Lib.hid hb1; clear hb1 _t tok; have tok2 := True.intro)
    | (go_at_call 31; have _t := tok2; refine (HC1.out _).mono ?_; rintro e w2 ⟨rfl, hb2⟩; skip; have HB2 := Lib.hid (HB1.out.trans (hb2.mono HB1.out.size)); clear hb2 _t tok2; have tok3 := True.intro)
    | (go_at_call 14; have _t := tok3; refine (RefSum256_any _ _ HS1.out).mono ?_; rintro e w3 ⟨rfl, hb3⟩; skip; rw [HX.out]; have HB3 := Lib.hid (HB2.out.trans (hb3.mono HB2.out.size)); clear hb3 _t tok3; have tok4 := True.intro)
    | (go_at_call 14; have _t := tok4; refine (RefSum256_any _ _ HS2.out).mono ?_; rintro e w4 ⟨rfl, hb4⟩; skip; rw [HF.out]; have HB4 := Lib.hid (HB3.out.trans (hb4.mono HB3.out.size)); clear hb4 _t tok4))
  go_ret
  exact ⟨rfl, HB4.out⟩
end Go.Proofs.YtoehmjkgjleaaaaDoor.Sha
