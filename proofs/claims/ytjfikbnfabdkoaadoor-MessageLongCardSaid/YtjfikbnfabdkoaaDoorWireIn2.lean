/- wire.In: numbers. -/
import Derived.Test.YtjfikbnfabdkoaaDoorWireIn
set_option linter.unusedVariables false
set_option linter.unusedSimpArgs false
namespace Go.Proofs.YtjfikbnfabdkoaaDoor.Wi
open Go.RowKit Go.Proofs.YtjfikbnfabdkoaaDoor.Ow
def numV (l : List UInt8) : Nat := l.foldl (fun a x => a * 256 + x.toNat) 0
theorem numV_snoc (l : List UInt8) (x : UInt8) : numV (l ++ [x]) = numV l * 256 + x.toNat := by unfold numV; rw [List.foldl_append]; rfl
theorem fold_lt (l : List UInt8) : ∀ a, l.foldl (fun a (x : UInt8) => a * 256 + x.toNat) a < (a + 1) * 256 ^ l.length := by
  induction l with
  | nil => intro a; simp
  | cons x l ih =>
    intro a
    have hx := x.toNat_lt
    refine Nat.lt_of_lt_of_le (ih _) ?_
    rw [List.length_cons, Nat.pow_succ, Nat.mul_comm (256 ^ l.length) 256, ← Nat.mul_assoc]
    exact Nat.mul_le_mul_right _ (by show a * 256 + x.toNat + 1 ≤ _; omega)
theorem numV_lt (l : List UInt8) : numV l < 256 ^ l.length := by have := fold_lt l 0; unfold numV; omega
theorem or_byte (a x : Nat) (hx : x < 256) : a * 256 ||| x = a * 256 + x := by
  rw [show a * 256 = 2 ^ 8 * a by omega, Nat.two_pow_add_eq_or_of_lt (by simpa using hx)]
theorem num_next (l : List UInt8) (j : Nat) (x : UInt8) (hx : l[j]? = some x) (hj : j < 8) : numV (l.take (j + 1)) = numV (l.take j) * 256 + x.toNat := by
  rw [List.take_add_one, hx]; exact numV_snoc _ _
theorem rawR_size (s : ByteArray) (c n : Nat) : (rawR s c n).size ≤ n := by
  unfold rawR; split
  · rw [ByteArray.size_extract]; omega
  · exact Nat.zero_le _
set_option maxHeartbeats 1000000 in
theorem InNum_any (w : World) (E : Nat → Value) (b : Nat) (s : ByteArray) (c k : Nat) (hk : k ≤ 8) (hs : s.size ≤ 9223372036854775807) (hE : Errs w E) (hb : Gl b) (h : IsIn w b s (evV E c)) :
    Calls Tryd.prog 92 #[.pointer (some ⟨b, 0, none⟩), .int .i64 k] w (Gave E b w (.int .u64 (numV (rawR s c k).data.toList : Nat)) (rawS s c k) (rawC s c k)) := by
  have H := Lib.hid h
  have HE := Lib.hid hE
  have hrs := rawR_size s c k
  clear h hE
  go_enter Tryd.func92, Tryd.ntmps92
  go_wp2_with (first
    | (go_at_call 69; refine (InRaw_any w E b s c k (by omega) hs HE.out hb H.out).mono ?_; rintro e w1 ⟨rfl, h1, hg1⟩; skip; have H1 := Lib.hid h1; have HG1 := Lib.hid hg1; clear h1 hg1; rw [Int.toNat_natCast] at *; generalize rawR s c k = r at *)
    | (refine Cv.conv_bytes rfl 9 35 5 _ rfl rfl Tryd.underlying9 Tryd.underlying35 Tryd.underlying5 ?_; intro Y cap hY hfY hbY hnY hcY; have HY := Lib.hid hY; have HBY := Lib.hid hbY; clear hY hfY hbY hnY hcY))
  have HIn := Lib.hid (show IsIn Y b (rawS s c k) (evV E (rawC s c k)) from H1.out.below HBY.out H1.out.lt)
  have HGY := Lib.hid (grown_below HG1.out HBY.out)
  go_loop [5, 13] (fun n i => ∃ j : Nat, j ≤ r.size ∧ i = .int .i64 j ∧ n = .int .u64 (numV (r.data.toList.take j) : Nat)) (fun _ i => r.size - (intOf i).toNat)
  case atStart => exact ⟨0, Nat.zero_le _, rfl, rfl⟩
  case round =>
    obtain ⟨j, hj, rfl, rfl⟩ := hrel
    by_cases hjr : j < r.size
    · have hd : decide (j < r.size) = true := by simp; exact hjr
      have hx : r.data.toList[j]? = some r[j] := by rw [List.getElem?_eq_getElem (by rw [Array.length_toList]; exact hjr)]; rfl
      have hcell := HY.out j _ hx
      rw [Nat.zero_add] at hcell
      have hlt := numV_lt (r.data.toList.take j)
      have hp : 256 ^ (r.data.toList.take j).length ≤ 256 ^ 7 := Nat.pow_le_pow_right (by decide) (by rw [List.length_take]; omega)
      have h7 : (256 : Nat) ^ 7 = 72057594037927936 := by decide
      have hl7 : numV (r.data.toList.take j) < 72057594037927936 := by omega
      have HN := Lib.hid (num_next r.data.toList j _ hx (by omega))
      have hb2 := r[j].toNat_lt
      clear hx hlt hp h7
      have hor : bits .or .u64 ((numV (r.data.toList.take j) : Int) * 256) (r[j].toNat : Int) = ((numV (r.data.toList.take (j + 1)) : Nat) : Int) := by
        rw [HN.out, show ((numV (r.data.toList.take j) : Int) * 256) = ((numV (r.data.toList.take j) * 256 : Nat) : Int) by rw [Int.natCast_mul]; rfl, u64_or_nat _ _ (by omega) (by omega), or_byte _ _ (by omega)]
      have HOR := Lib.hid hor
      clear hor
      go_wp2
      go_round
      case rel => exact ⟨j + 1, by omega, by go_num, by rw [HOR.out]⟩
      case measure => simp [intOf]; omega
    · obtain rfl : j = r.size := by omega
      have HT := Lib.hid (show r.data.toList.take r.size = r.data.toList from List.take_of_length_le (by rw [Array.length_toList]; exact Nat.le_refl _))
      go_wp2
      go_ret
      exact ⟨by show Ending.returned (.int .u64 ((numV (r.data.toList.take r.size) : Nat) : Int)) = _; rw [HT.out], HIn.out, HGY.out⟩

theorem num1_lt (s : ByteArray) (c : Nat) : numV (rawR s c 1).data.toList < 256 := by
  have h := numV_lt (rawR s c 1).data.toList
  have h2 := rawR_size s c 1
  have h3 : 256 ^ (rawR s c 1).data.toList.length ≤ 256 ^ 1 := Nat.pow_le_pow_right (by decide) (by rw [Array.length_toList]; exact rawR_size s c 1)
  have h4 : (256 : Nat) ^ 1 = 256 := by decide
  omega
set_option maxHeartbeats 400000 in
theorem InByte_any (w : World) (E : Nat → Value) (b : Nat) (s : ByteArray) (c : Nat) (hs : s.size ≤ 9223372036854775807) (hE : Errs w E) (hb : Gl b) (h : IsIn w b s (evV E c)) :
    Calls Tryd.prog 63 #[.pointer (some ⟨b, 0, none⟩)] w (Gave E b w (.int .u8 (numV (rawR s c 1).data.toList : Nat)) (rawS s c 1) (rawC s c 1)) := by
  have H := Lib.hid h
  have HE := Lib.hid hE
  have hn := num1_lt s c
  clear h hE
  go_enter Tryd.func63, Tryd.ntmps63
  go_wp2_with (go_at_call 92; refine (InNum_any w E b s c 1 (by decide) hs HE.out hb H.out).mono ?_; rintro e w1 ⟨rfl, h1, hg1⟩; skip; have H1 := Lib.hid h1; have HG1 := Lib.hid hg1; clear h1 hg1)
  go_ret
  exact ⟨by first | rfl | simp | (simp; omega), H1.out, HG1.out⟩

theorem num4_lt (s : ByteArray) (c : Nat) : numV (rawR s c 4).data.toList < 4294967296 := by
  have h := numV_lt (rawR s c 4).data.toList
  have h2 := rawR_size s c 4
  have h3 : 256 ^ (rawR s c 4).data.toList.length ≤ 256 ^ 4 := Nat.pow_le_pow_right (by decide) (by rw [Array.length_toList]; exact rawR_size s c 4)
  have h4 : (256 : Nat) ^ 4 = 4294967296 := by decide
  omega
set_option maxHeartbeats 400000 in
theorem InU32_any (w : World) (E : Nat → Value) (b : Nat) (s : ByteArray) (c : Nat) (hs : s.size ≤ 9223372036854775807) (hE : Errs w E) (hb : Gl b) (h : IsIn w b s (evV E c)) :
    Calls Tryd.prog 65 #[.pointer (some ⟨b, 0, none⟩)] w (Gave E b w (.int .u32 (numV (rawR s c 4).data.toList : Nat)) (rawS s c 4) (rawC s c 4)) := by
  have H := Lib.hid h
  have HE := Lib.hid hE
  have hn := num4_lt s c
  clear h hE
  go_enter Tryd.func65, Tryd.ntmps65
  go_wp2_with (go_at_call 92; refine (InNum_any w E b s c 4 (by decide) hs HE.out hb H.out).mono ?_; rintro e w1 ⟨rfl, h1, hg1⟩; skip; have H1 := Lib.hid h1; have HG1 := Lib.hid hg1; clear h1 hg1)
  go_ret
  exact ⟨by first | rfl | simp | (simp; omega), H1.out, HG1.out⟩

theorem num8_lt (s : ByteArray) (c : Nat) : numV (rawR s c 8).data.toList < 18446744073709551616 := by
  have h := numV_lt (rawR s c 8).data.toList
  have h2 := rawR_size s c 8
  have h3 : 256 ^ (rawR s c 8).data.toList.length ≤ 256 ^ 8 := Nat.pow_le_pow_right (by decide) (by rw [Array.length_toList]; exact rawR_size s c 8)
  have h4 : (256 : Nat) ^ 8 = 18446744073709551616 := by decide
  omega
end Go.Proofs.YtjfikbnfabdkoaaDoor.Wi
