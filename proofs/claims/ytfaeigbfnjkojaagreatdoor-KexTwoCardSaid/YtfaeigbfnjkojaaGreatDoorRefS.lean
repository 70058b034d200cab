/- The whole of a sum: the reference. The whole of a sum: the reference, words of 32 bits. -/
import Derived.Test.YtfaeigbfnjkojaaGreatDoorRefBlock
import Derived.Test.YtfaeigbfnjkojaaGreatDoorRefBlock64
import Derived.Test.YtfaeigbfnjkojaaGreatDoorShaC
import Derived.Test.YtfaeigbfnjkojaaGreatDoorGenA
set_option linter.unusedVariables false
set_option linter.unusedSimpArgs false
namespace Go.Proofs.YtfaeigbfnjkojaaGreatDoor.Sha
open Go.RowKit Go.Proofs.YtfaeigbfnjkojaaGreatDoor.Cl Go.Proofs.YtfaeigbfnjkojaaGreatDoor.Ws Go.Proofs.YtfaeigbfnjkojaaGreatDoor.Cv Go.Proofs.YtfaeigbfnjkojaaGreatDoor.Ow
theorem infoU8 : (Tryz.prog.info? 5).map (fun i => (i.zero, i.size, i.bytes)) = some (some (.int .u8 0), 1, 1) := by kernel_rfl
def zeros1 (W n : Nat) : Nat := (2 * W - (n + 1 + W / 4) % (2 * W)) % (2 * W)
theorem zeros_eq (W n : Nat) (h : 8 ≤ W / 4) : zeros W n = zeros1 W n + (W / 4 - 8) := by unfold zeros zeros1; omega
theorem zeros1_test32 (n j : Nat) (h : j ≤ zeros1 32 n) : (n + 1 + j + 8) % 64 = 0 ↔ j = zeros1 32 n := by unfold zeros1 at *; omega
theorem zeros1_test64 (n j : Nat) (h : j ≤ zeros1 64 n) : (n + 1 + j + 16) % 128 = 0 ↔ j = zeros1 64 n := by unfold zeros1 at *; omega
theorem push_zero (o : ByteArray) (a : List UInt8) (j : Nat) (h : o.data.toList = a ++ ([128] ++ List.replicate j 0)) : (o ++ (⟨#[0]⟩ : ByteArray)).data.toList = a ++ ([128] ++ List.replicate (j + 1) 0) := by
  rw [bytes_append, h, List.append_assoc, List.append_assoc, ← List.replicate_succ']
theorem be_snoc (k x q : Nat) (hq : q = x / 256 ^ k) : [Value.int .u8 ((q : Int) % 256)] ++ bv (beBytes k x) = bv (beBytes (k + 1) x) := by
  have e : bv (beBytes (k + 1) x) = bv [UInt8.ofNat (x / 256 ^ k)] ++ bv (beBytes k x) := by rw [← bv_append]; rfl
  rw [e, bv_one (UInt8.ofNat (x / 256 ^ k)) ((q : Int) % 256) (by rw [UInt8.toNat_ofNat', hq, Int.natCast_emod]; rfl)]
theorem div_next (x k q : Nat) (hq : q = x / 256 ^ k) : q / 256 = x / 256 ^ (k + 1) := by rw [hq, Nat.div_div_eq_div_mul, ← Nat.pow_succ]
theorem padded_of (W : Nat) (s o : ByteArray) (h : o.data.toList = s.data.toList ++ ([128] ++ List.replicate (zeros W s.size) 0)) : (o ++ (⟨(beBytes 8 (s.size * 8)).toArray⟩ : ByteArray)).data.toList = padded W s.data.toList := by
  rw [bytes_append, h]; unfold padded; rw [Array.length_toList]; rfl
/-- the first k of the words cut, the others whole -/
def h0p (k : Nat) : List Nat := (List.range 8).map fun i => if i < k then hi32 (nth firstL i) else nth firstL i
theorem h0p_length (k : Nat) : (h0p k).length = 8 := by simp [h0p]
theorem h0p_get (k : Nat) (hk : k < 8) : nth (h0p k) k = nth firstL k := by simp [h0p, nth, hk]
theorem h0p_set (k : Nat) (hk : k < 8) : (h0p k).set k (hi32 (nth firstL k)) = h0p (k + 1) := by
  apply List.ext_getElem
  · simp [h0p]
  · intro i h1 h2
    rw [List.getElem_set]
    simp only [h0p, List.getElem_map, List.getElem_range]
    by_cases hij : k = i
    · subst hij; simp
    · have : i < k + 1 ↔ i < k := by omega
      simp [hij, this]
theorem h0p_zero : h0p 0 = firstL := by rfl
theorem h0p_all : h0p 8 = h0 32 := by rfl
theorem h0_64 : h0 64 = firstL := by rfl
theorem extract_mid (s : ByteArray) (a b : Nat) : (s.extract a (a + b)).data.toList = (s.data.toList.drop a).take b := by
  simp [List.take_drop]
theorem out_snoc (W : Nat) (hs : List Nat) (j : Nat) (hj : j < hs.length) : bv (outBytes W (hs.take (j + 1))) = bv (outBytes W (hs.take j)) ++ bv (beBytes (W / 8) (nth hs j)) := outBytes_snoc W hs j hj
theorem be_take (m x k : Nat) (h : k < m) (e : Nat) (he : e = 8 * (m - 1 - k)) : bv ((beBytes m x).take k) ++ [.int .u8 ((x : Int) / 2 ^ e % 256)] = bv ((beBytes m x).take (k + 1)) := (be_cells m x k h e he).symm
theorem words8 {w : World} {b c : Nat} {hh : List Nat} (h : At8 w b hh) (hl : hh.length = 8) (hc : 8 ≤ c) : Words w (.slice (some ⟨b, 0, none⟩) 8 c) hh :=
  ⟨b, c, by rw [hl], by omega, h.1, fun j hj => h.2 j (by omega)⟩
theorem at8_words {w : World} {v : Value} {hh : List Nat} (h : Words w v hh) (hl : hh.length = 8) : ∃ b c, v = .slice (some ⟨b, 0, none⟩) 8 c ∧ 8 ≤ c ∧ At8 w b hh := by
  obtain ⟨b, c, hv, hc, hb, hx⟩ := h
  exact ⟨b, c, by rw [hv, hl], by omega, hb, fun j hj => hx j (by omega)⟩
theorem size_of (o : ByteArray) (l : List UInt8) (h : o.data.toList = l) : o.size = l.length := by rw [← h, Array.length_toList]; rfl
end Go.Proofs.YtfaeigbfnjkojaaGreatDoor.Sha
namespace Go.Proofs.YtfaeigbfnjkojaaGreatDoor.Sha
open Go.RowKit Go.Proofs.YtfaeigbfnjkojaaGreatDoor.Cl Go.Proofs.YtfaeigbfnjkojaaGreatDoor.Ws Go.Proofs.YtfaeigbfnjkojaaGreatDoor.Cv Go.Proofs.YtfaeigbfnjkojaaGreatDoor.Ow

set_option maxRecDepth 20000 in
set_option maxHeartbeats 4000000 in
theorem refsum32 (w : World) (s : ByteArray) (hs : s.size ≤ 1000000) :
    Calls Tryz.prog 56 #[.string s, .int .i64 32] w fun e w' => e = .returned (.string ⟨(sha 32 s.data.toList).toArray⟩) ∧ Below w.heap.size w w' := by
  have hz1 : zeros1 32 s.size < 64 := by unfold zeros1; omega
  obtain ⟨Z, hZ⟩ : ∃ Z, zeros1 32 s.size = Z := ⟨_, rfl⟩
  rw [hZ] at hz1
  have HZ := Lib.hid hZ
  clear hZ
  have hq0 : ¬ 9223372036854775807 < s.size + 1 := by omega
  have HLN := Lib.hid (show s.data.toList.length = s.size from Array.length_toList)
  go_enter Tryz.func56, Tryz.ntmps56
  go_wp2_with (refine conv_string rfl 36 5 9 _ rfl Tryz.underlying36 Tryz.underlying5 Tryz.underlying9 _ 0 1 1 [128] rfl rfl (one_byte _ _ _ _ rfl) ?_)
  have HB0 := Lib.hid (show Below w.heap.size w (w.alloc (.cells #[.int .u8 128] 5)) from (Below.refl _ _).alloc (Nat.le_refl _) _)
  have HT0 := Lib.hid (show (s ++ (⟨#[128]⟩ : ByteArray)).data.toList = s.data.toList ++ ([128] ++ List.replicate 0 0) from bytes_append _ _)
  clear hq0
  go_loopw [0] (fun t wr => ∃ (j : Nat) (o : ByteArray), j ≤ Z ∧ t = .string o ∧ o.data.toList = s.data.toList ++ ([128] ++ List.replicate j 0) ∧ Below w.heap.size w wr) (fun t _ => s.size + 1 + Z - strLen t)
  case atStart => exact ⟨0, _, Nat.zero_le _, rfl, HT0.out, HB0.out⟩
  case round =>
    obtain ⟨j, o, hj, rfl, ho, hb⟩ := hrel
    have hsz : o.size = s.size + 1 + j := by rw [size_of _ _ ho, List.length_append, List.length_append, List.length_replicate, HLN.out]; simp; omega
    have hszl : o.size ≤ 1000200 := by omega
    have HO := Lib.hid ho
    have HSZ := Lib.hid hsz
    have HB := Lib.hid hb
    clear ho hb hsz HB0 HT0
    have hsm : (o.size : Int) + 8 < 9223372036854775807 := by omega
    have hz := zeros1_test32 s.size j (by rw [HZ.out]; exact hj)
    rw [HZ.out, show s.size + 1 + j + 8 = o.size + 8 by rw [HSZ.out]] at hz
    by_cases hjZ : j < Z
    · have hne : ¬ (o.size + 8) % 64 = 0 := fun h => by have := hz.1 h; omega
      have ht1 : (((o.size : Int) + 8) % 64 == 0) = false := by simp; omega
      have ht2 : (((o.size : Int) + 8) % 64 != 0) = true := by simp; omega
      clear hz hne
      have hq1 : ¬ 9223372036854775807 < o.size + 1 := by omega
      go_wp2_with (refine conv_string rfl 36 5 9 _ rfl Tryz.underlying36 Tryz.underlying5 Tryz.underlying9 _ 0 1 1 [0] rfl rfl (one_byte _ _ _ _ rfl) ?_)
      go_roundw
      case rel => exact ⟨j + 1, _, by omega, rfl, push_zero _ _ _ HO.out, HB.out.alloc HB.out.size _⟩
      case measure =>
        show s.size + 1 + Z - (o ++ (⟨#[0]⟩ : ByteArray)).size < s.size + 1 + Z - o.size
        rw [ByteArray.size_append, HSZ.out]; show _ - (_ + 1) < _; omega
    · obtain rfl : j = Z := by omega
      have he : (o.size + 8) % 64 = 0 := hz.2 rfl
      have ht1 : (((o.size : Int) + 8) % 64 == 0) = true := by simp; omega
      have ht2 : (((o.size : Int) + 8) % 64 != 0) = false := by simp; omega
      clear hz he hjZ
      go_wp2_with fail
      clear ht1 ht2 hsm
      obtain ⟨wo, rfl⟩ : ∃ wo : World, wo = wr := ⟨_, rfl⟩
      go_loopw [0, 7] (fun t i wr => ∃ (k : Nat) (o : ByteArray), k ≤ 8 - 8 ∧ i = .int .i64 ((8 + k : Nat) : Int) ∧ t = .string o ∧ o.data.toList = s.data.toList ++ ([128] ++ List.replicate (j + k) 0) ∧ Below w.heap.size w wr) (fun _ i _ => 8 - (intOf i).toNat)
      case atStart => exact ⟨0, _, Nat.zero_le _, rfl, rfl, HO.out, HB.out⟩
      case round =>
        obtain ⟨k, o2, hk, rfl, rfl, ho2, hb2⟩ := hrel
        have hsz2 : o2.size = s.size + 1 + (j + k) := by rw [size_of _ _ ho2, List.length_append, List.length_append, List.length_replicate, HLN.out]; simp; omega
        have hszl2 : o2.size ≤ 1000300 := by omega
        have HO2 := Lib.hid ho2
        have HSZ2 := Lib.hid hsz2
        have HB2 := Lib.hid hb2
        clear ho2 hb2 hsz2
        have hq1 : ¬ 9223372036854775807 < o2.size + 1 := by omega
        by_cases hkw : k < 8 - 8
        · have hd : decide (((8 + k : Nat) : Int) < 8) = true := by simp; omega
          exfalso; omega
        · obtain rfl : k = 8 - 8 := by omega
          go_wp2_with fail
          have HM0 := Lib.hid (show o2.data.toList = s.data.toList ++ ([128] ++ List.replicate (zeros 32 s.size) 0) by rw [HO2.out, zeros_eq 32 s.size (by decide), HZ.out])
          have hszw := HB2.out.size
          have HOT := Lib.hid (show Owns (wr.alloc (.cells #[] 5)) w.heap.size 5 (.slice (some ⟨wr.heap.size, 0, none⟩) 0 0) (bv (beBytes 0 (s.size * 8))) from Owns.new wr _ _ [] hszw (by decide))
          have HBT := Lib.hid (HB2.out.alloc hszw (.cells #[] 5))
          clear hkw hk hszw
          obtain ⟨wo, rfl⟩ : ∃ wo : World, wo = wr := ⟨_, rfl⟩
          go_loopw [6, 8, 9] (fun q v i wr => ∃ k x : Nat, k ≤ 8 ∧ i = .int .i64 k ∧ q = .int .i64 x ∧ x = s.size * 8 / 256 ^ k ∧ Owns wr w.heap.size 5 v (bv (beBytes k (s.size * 8))) ∧ Below w.heap.size w wr) (fun _ _ i _ => 8 - (intOf i).toNat)
          case atStart => exact ⟨0, s.size * 8, by decide, rfl, by go_num, by simp, HOT.out, HBT.out⟩
          case round =>
            obtain ⟨k, x, hk, rfl, rfl, hx, hO, hb⟩ := hrel
            have hxl : x ≤ 8000000 := by rw [hx]; exact Nat.le_trans (Nat.div_le_self _ _) (by omega)
            obtain ⟨A, c, rfl, hR, hc⟩ := hO.form
            rw [bv_length, beBytes_length] at hO hc ⊢
            have HX := Lib.hid hx
            have HOk := Lib.hid hO
            have HR := Lib.hid hR
            have HB := Lib.hid hb
            have hszb := hb.size
            clear hx hO hR hb HOT HBT
            by_cases hk8 : k < 8
            · have hd : decide ((k : Int) < 8) = true := by simp; omega
              go_wp2_with (at_builtin
                           go_loud (refine app rfl _ _ _ rfl Tryz.underlying36 infoU8 rfl (by decide) (Owns.new wr w.heap.size 5 [.int .u8 ((x : Int) % 256)] hszb (show 1 ≤ maxLen by decide)) rfl rfl (by rw [bv_length, beBytes_length]) (HR.out.below ((Below.refl _ _).alloc (Nat.le_refl _) _)) (bv_cells _) ?_ ?_ ?_)
                           · simp; omega
                           · simp; omega
                           intro v' w3 hO' hg' _
                           have HO' := Lib.hid (hO'.cast (be_snoc k (s.size * 8) x HX.out))
                           have HB' := Lib.hid ((HB.out.alloc hszb _).grown hg' (by simp; omega) (fun k hk => by cases hk; exact hszb))
                           clear hO' hg')
              go_roundw
              case rel =>
                first
                  | exact ⟨k + 1, x / 256, by omega, by go_num, by go_num, div_next _ _ _ HX.out, HO'.out, HB'.out⟩
                  | ((repeat apply Exists.intro); refine ⟨?_, rfl⟩; exact ⟨k + 1, x / 256, by omega, by go_num, by go_num, div_next _ _ _ HX.out, HO'.out, HB'.out⟩)
              case measure => simp [intOf]; omega
            · obtain rfl : k = 8 := by omega
              have HMT := Lib.hid (padded_of 32 s o2 HM0.out)
              have hq2 : ¬ 9223372036854775807 < o2.size + 8 := by omega
              have hms : (o2 ++ (⟨(beBytes 8 (s.size * 8)).toArray⟩ : ByteArray)).size ≤ 1000400 := by
                rw [ByteArray.size_append]; show o2.size + (beBytes 8 (s.size * 8)).toArray.size ≤ _; rw [List.size_toArray, beBytes_length]; omega
              have hbs : (⟨(beBytes 8 (s.size * 8)).toArray⟩ : ByteArray).size = 8 := by show (beBytes 8 (s.size * 8)).toArray.size = 8; rw [List.size_toArray, beBytes_length]
              have HMS := Lib.hid hms
              clear hms
              go_wp2_with (first
                | (refine str rfl 36 5 9 _ rfl Tryz.underlying36 Tryz.underlying5 Tryz.underlying9 HOk.out rfl ?_; skip)
                | (go_at_call 73; refine (refstart _).mono ?_; rintro e w4 ⟨rfl, rfl⟩; skip; have HR4 := Lib.hid (show Row (wr.alloc (.cells (u64s firstL) 50)) wr.heap.size 50 firstL from Rg.Blk.new _ _ _); have HB4 := Lib.hid (HB.out.alloc hszb (.cells (u64s firstL) 50)); generalize wr.alloc (.cells (u64s firstL) 50) = w4 at *))
              generalize (o2 ++ (⟨(beBytes 8 (s.size * 8)).toArray⟩ : ByteArray)) = m at *
              have HML := Lib.hid (padded_length32 s.data.toList)
              obtain ⟨pd, hpd⟩ : ∃ pd, pd = padded 32 s.data.toList := ⟨_, rfl⟩
              have HPD := Lib.hid hpd
              rw [← hpd] at HMT HML
              clear hpd
              have HMT2 := Lib.hid HMT.out.symm
              have HmM := Lib.hid (show m.size = pd.length by rw [← HMT.out, Array.length_toList]; rfl)
              obtain ⟨K, hK⟩ : ∃ K, m.size = K * 64 := ⟨m.size / 64, by have := HML.out; rw [← HmM.out] at this; omega⟩
              have HK := Lib.hid hK
              have hKl : K * 64 ≤ 1000400 := by rw [← hK]; exact HMS.out
              clear hK hq2 hbs hk8 hk hxl hc hszl2 hq1 hszl hj hz1 hszb
              obtain ⟨gb, hgb⟩ : ∃ gb, gb = wr.heap.size := ⟨_, rfl⟩
              rw [← hgb] at HR4 ⊢
              have hgw : w.heap.size ≤ gb := by rw [hgb]; exact HB.out.size
              clear hgb
              obtain ⟨wo, rfl⟩ : ∃ wo : World, wo = w4 := ⟨_, rfl⟩
              have HR0 := Lib.hid (show Row wo gb 50 (h0p 0) from h0p_zero ▸ HR4.out)
              go_loopw [70] (fun i wr => ∃ k : Nat, k ≤ 8 ∧ i = .int .i64 k ∧ Row wr gb 50 (h0p k) ∧ Below w.heap.size w wr) (fun i _ => 8 - (intOf i).toNat)
              case atStart => exact ⟨0, by decide, rfl, HR0.out, HB4.out⟩
              case round =>
              obtain ⟨k, hk, rfl, hR, hb⟩ := hrel
              have HR5 := Lib.hid hR
              have HB6 := Lib.hid hb
              clear hR hb HR0 HR4 HB4
              rcases Nat.lt_or_ge k 8 with hk8 | hk8
              case inl =>
                have hd : decide ((k : Int) < 8) = true := by simp; omega
                have hc := HR5.out.cell k (by rw [h0p_length]; exact hk8)
                rw [h0p_get k hk8] at hc
                have hv : IntKind.u64.wrap (((nth firstL k : Nat) : Int) / 4294967296) = ((hi32 (nth firstL k) : Nat) : Int) := by have := first_lt k; rw [IntKind.wrap_u64]; unfold hi32; omega
                have hik : (k : Int) < 8 := by omega
                go_wp2_with (refine store_cell rfl 50 _ _ rfl rfl rfl Tryz.underlying50 (by kernel_rfl) HR5.out (by rw [h0p_length]; exact hk8) ?_
                             intro w9 hR9 hg9
                             rw [h0p_set k hk8] at hR9
                             have HR9 := Lib.hid hR9
                             have HB9 := Lib.hid (HB6.out.grown hg9 HB6.out.size (fun k hk => by cases hk; exact hgw))
                             clear hR9 hg9)
                go_roundw
                case rel => exact ⟨k + 1, by omega, by go_num, HR9.out, HB9.out⟩
                case measure => simp [intOf]; omega
              obtain rfl : k = 8 := by omega
              go_wp2_with fail
              have HA5 := Lib.hid (show At8 wr gb (hashTo 32 m.data.toList 0) from ⟨HR5.out.lt, fun j hj => HR5.out.cell j hj⟩)
              have HB5 := HB6
              clear HR5 HB6 hk8 hk
              generalize wr = w5 at *
              clear HOk HR HB HB2 HO2 HO HX HM0 HMT HSZ HSZ2
              obtain ⟨wo, rfl⟩ : ∃ wo : World, wo = w5 := ⟨_, rfl⟩
              go_loopw [10, 12] (fun v i wr => ∃ k b c p : Nat, k ≤ K ∧ p = k * 64 ∧ i = .int .i64 p ∧ v = .slice (some ⟨b, 0, none⟩) 8 c ∧ 8 ≤ c ∧ At8 wr b (hashTo 32 m.data.toList k) ∧ Below w.heap.size w wr) (fun _ i _ => 1000500 - (intOf i).toNat)
              case atStart => exact ⟨0, gb, 8, 0, Nat.zero_le _, by simp, rfl, rfl, by decide, HA5.out, HB5.out⟩
              case round =>
                obtain ⟨k, b, c, p, hk, hp, rfl, rfl, hc, hA, hb⟩ := hrel
                have HA := Lib.hid hA
                have HB := Lib.hid hb
                have HP := Lib.hid hp
                have HC := Lib.hid hc
                have hpl : p ≤ K * 64 := by rw [hp]; exact Nat.mul_le_mul_right _ hk
                have hpm : p ≤ 1000400 := by omega
                clear hA hb hp hc HA5 HB5
                by_cases hkK : k < K
                · have hlt : k * 64 + 64 ≤ K * 64 := by have : (k + 1) * 64 ≤ K * 64 := Nat.mul_le_mul_right _ hkK; omega
                  have hms : p + 64 ≤ m.size := by rw [HK.out, HP.out]; exact hlt
                  have hd : decide ((p : Int) < m.size) = true := by simp; omega
                  clear hlt hpl hKl
                  have hW := words8 HA.out (hashTo_length _ _ _) HC.out
                  have HW := Lib.hid hW
                  have HLT := Lib.hid (fun i => hashTo_lt 32 (by decide) m.data.toList k i)
                  clear hW
                  have HES := Lib.hid (show (m.extract p (p + 64)).size = 64 by rw [ByteArray.size_extract]; omega)
                  have HET := Lib.hid (show mixed 32 (m.extract p (p + 64)).data.toList (hashTo 32 m.data.toList k) = hashTo 32 m.data.toList (k + 1) by rw [extract_mid, HP.out]; rfl)
                  have hI1 : (p : Int) ≤ (p : Int) + 64 := by omega
                  have hI2 : (p : Int) + 64 ≤ (m.size : Int) := by omega
                  have hI3 : ((p : Int) + 64).toNat = p + 64 := by omega
                  go_wp2_with (go_at_call 74; refine (refblock32 _ _ _ _ HES.out HW.out (hashTo_length _ _ _) HLT.out).mono ?_; rintro e w7 ⟨v7, rfl, hw7, hb7⟩; skip; have HW7 := Lib.hid (HET.out ▸ hw7); have HB7 := Lib.hid (HB.out.trans (hb7.mono HB.out.size)); clear hw7 hb7)
                  obtain ⟨b7, c7, rfl, hc7, hA7⟩ := at8_words HW7.out (hashTo_length _ _ _)
                  have HA7 := Lib.hid hA7
                  have HC7 := Lib.hid hc7
                  clear hA7 hc7
                  go_roundw
                  case rel =>
                    first
                      | exact ⟨k + 1, b7, c7, p + 64, by omega, by have := HP.out; omega, by go_num, rfl, HC7.out, HA7.out, HB7.out⟩
                      | ((repeat apply Exists.intro); refine ⟨?_, rfl⟩; exact ⟨k + 1, b7, c7, p + 64, by omega, by have := HP.out; omega, by go_num, rfl, HC7.out, HA7.out, HB7.out⟩)
                  case measure => simp [intOf]; omega
                · obtain rfl : k = K := by omega
                  have hd : ¬ p < m.size := by have := HP.out; have := HK.out; omega
                  go_wp2_with fail
                  clear hd hpl hKl hpm hk hkK
                  have hszb := HB.out.size
                  have HO8 := Lib.hid (show Owns (wr.alloc (.cells #[] 5)) wr.heap.size 5 (.slice (some ⟨wr.heap.size, 0, none⟩) 0 0) (bv (outBytes 32 ((hashTo 32 m.data.toList k).take 0))) from Owns.new wr _ _ [] (Nat.le_refl _) (by decide))
                  have HB8 := Lib.hid (HB.out.alloc hszb (.cells #[] 5))
                  have HA8 := Lib.hid (HA.out.below ((Below.refl _ _).alloc (Nat.le_refl _) (.cells #[] 5)))
                  have hbl := HA.out.1
                  have HHL := Lib.hid (hashTo_length 32 m.data.toList k)
                  have HLT := Lib.hid (fun i => hashTo_lt 32 (by decide) m.data.toList k i)
                  obtain ⟨hh, hhh⟩ : ∃ hh, hh = hashTo 32 m.data.toList k := ⟨_, rfl⟩
                  have HHH := Lib.hid hhh
                  rw [← hhh] at HO8 HA8 HHL HLT
                  clear hhh HA HB
                  obtain ⟨wb, hwb⟩ : ∃ wb, wb = wr.heap.size := ⟨_, rfl⟩
                  have HWB := Lib.hid hwb
                  rw [← hwb] at HO8 hszb hbl ⊢
                  have HW8 := Lib.hid (show wb ≤ (wr.alloc (.cells #[] 5)).heap.size by rw [HWB.out]; simp)
                  clear hwb
                  obtain ⟨wo, rfl⟩ : ∃ wo : World, wo = wr := ⟨_, rfl⟩
                  go_loopw [13, 15, 16, 101] (fun v _ _ i wr => ∃ j : Nat, j ≤ 8 ∧ i = .int .i64 j ∧ Owns wr wb 5 v (bv (outBytes 32 (hh.take j))) ∧ wb ≤ wr.heap.size ∧ At8 wr b hh ∧ Below w.heap.size w wr) (fun _ _ _ i _ => 8 - (intOf i).toNat)
                  case atStart => exact ⟨0, by decide, rfl, HO8.out, HW8.out, HA8.out, HB8.out⟩
                  case round =>
                    obtain ⟨j, hj, rfl, hO, hw9, hA, hb⟩ := hrel
                    have HO9 := Lib.hid hO
                    have HA9 := Lib.hid hA
                    have HB9 := Lib.hid hb
                    clear hO hA hb HO8 HB8 HA8 HW8
                    by_cases hj8 : j < 8
                    · have hd : decide ((j : Int) < 8) = true := by simp; omega
                      have hc := HA9.out.2 j hj8
                      have hij : (j : Int) < 8 := by omega
                      go_wp2_with fail
                      clear hd hc hij
                      have hx := HLT.out j
                      have HSN := Lib.hid (show bv (outBytes 32 (hh.take (j + 1))) = bv (outBytes 32 (hh.take j)) ++ bv (beBytes 4 (nth hh j)) from out_snoc 32 hh j (by rw [HHL.out]; exact hj8))
                      have HO10 := Lib.hid (show Owns wr wb 5 _ (bv (outBytes 32 (hh.take j)) ++ bv ((beBytes 4 (nth hh j)).take 0)) from HO9.out.cast (by rw [List.take_zero]; exact (List.append_nil _).symm))
                      have hbl9 : (bv (outBytes 32 (hh.take j))).length ≤ 64 := by rw [bv_length, outBytes_length, List.length_take]; have := HHL.out; omega
                      generalize hxx : nth hh j = xx at *
                      have HXX := Lib.hid hxx
                      clear hxx
                      obtain ⟨wo2, rfl⟩ : ∃ wo2 : World, wo2 = wr := ⟨_, rfl⟩
                      go_loopw [13, 16] (fun v i wr => ∃ l : Nat, l ≤ 4 ∧ i = .int .i64 (3 - (l : Int)) ∧ Owns wr wb 5 v (bv (outBytes 32 (hh.take j)) ++ bv ((beBytes 4 xx).take l)) ∧ wb ≤ wr.heap.size ∧ At8 wr b hh ∧ Below w.heap.size w wr) (fun _ i _ => (intOf i + 1).toNat)
                      case atStart => exact ⟨0, by decide, rfl, HO10.out, hw9, HA9.out, HB9.out⟩
                      case round =>
                        obtain ⟨l, hl, rfl, hO, hw11, hA, hb⟩ := hrel
                        have HO11 := Lib.hid hO
                        have HA11 := Lib.hid hA
                        have HB11 := Lib.hid hb
                        clear hO hA hb HO10 HA9 HB9
                        by_cases hl4 : l < 4
                        · have hi0 : (0 : Int) ≤ 3 - (l : Int) := by omega
                          have hi1 : (0 : Int) ≤ 8 * (3 - (l : Int)) := by omega
                          have hm : min (8 * (3 - (l : Int))).toNat 64 = 8 * (3 - l) := by omega
                          have HBT := Lib.hid (be_take 4 xx l hl4 (8 * (3 - l)) (by omega))
                          have hll : (bv ((beBytes 4 xx).take l)).length ≤ 8 := by rw [bv_length, List.length_take]; omega
                          go_wp2_with (at_builtin
                                       refine app1 rfl _ _ _ rfl Tryz.underlying36 infoU8 rfl (by decide) HO11.out rfl rfl rfl ?_ hw11 ?_
                                       · rw [List.length_append]; omega
                                       intro v' w12 hO' hg' hat
                                       rw [List.append_assoc, HBT.out] at hO'
                                       have HO' := Lib.hid hO'
                                       have hw12 : wb ≤ w12.heap.size := Nat.le_trans hw11 hg'.size
                                       have HB' := Lib.hid (HB11.out.grown hg' HB11.out.size (HO11.out.ge hszb))
                                       have HA' := Lib.hid (HA11.out.grown hg' (fun e => by have := HO11.out.ge (Nat.le_refl _) b e.symm; omega))
                                       clear hO' hg' hat)
                          go_roundw
                          case rel =>
                            first
                              | exact ⟨l + 1, by omega, by go_num, HO'.out, hw12, HA'.out, HB'.out⟩
                              | ((repeat apply Exists.intro); refine ⟨?_, rfl⟩; exact ⟨l + 1, by omega, by go_num, HO'.out, hw12, HA'.out, HB'.out⟩)
                          case measure => simp [intOf]; omega
                        · obtain rfl : l = 4 := by omega
                          go_wp2_with fail
                          have HOX := Lib.hid (show Owns wr wb 5 _ (bv (outBytes 32 (hh.take (j + 1)))) from HO11.out.cast (by rw [List.take_of_length_le (l := beBytes 4 xx) (i := 4) (Nat.le_of_eq (beBytes_length _ _))]; exact HSN.out.symm))
                          go_roundw
                          case rel =>
                            first
                              | exact ⟨j + 1, by omega, by go_num, HOX.out, hw11, HA11.out, HB11.out⟩
                              | ((repeat apply Exists.intro); refine ⟨?_, rfl⟩; exact ⟨j + 1, by omega, by go_num, HOX.out, hw11, HA11.out, HB11.out⟩)
                          case measure => simp [intOf]; omega
                    · obtain rfl : j = 8 := by omega
                      have HOF := Lib.hid (HO9.out.cast (by rw [List.take_of_length_le (by rw [HHL.out]; exact Nat.le_refl _)]))
                      go_wp2_with (refine str rfl 36 5 9 _ rfl Tryz.underlying36 Tryz.underlying5 Tryz.underlying9 HOF.out rfl ?_; skip)
                      go_ret
                      refine ⟨?_, HB9.out⟩
                      have hsh : sha 32 s.data.toList = outBytes 32 hh := by
                        unfold sha
                        rw [HHH.out, ← HPD.out, HMT2.out, Array.length_toList]
                        show outBytes 32 (hashTo 32 m.data.toList (m.size / (2 * 32))) = _
                        rw [HK.out, Nat.mul_div_cancel _ (by decide)]
                      rw [hsh]; rfl
end Go.Proofs.YtfaeigbfnjkojaaGreatDoor.Sha
