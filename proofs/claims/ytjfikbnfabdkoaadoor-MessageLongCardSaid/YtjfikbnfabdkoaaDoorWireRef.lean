/- Fields as bytes: the reference. -/
import Derived.Test.YtjfikbnfabdkoaaDoorCut
set_option linter.unusedVariables false
set_option linter.unusedSimpArgs false
namespace Go.Proofs.YtjfikbnfabdkoaaDoor.Wi
open Go.RowKit Go.Proofs.YtjfikbnfabdkoaaDoor.Ow Go.Proofs.YtjfikbnfabdkoaaDoor.Be
theorem infoU8 : (Tryd.prog.info? 5).map (fun i => (i.zero, i.size, i.bytes)) = some (some (.int .u8 0), 1, 1) := by kernel_rfl
theorem infoStr : (Tryd.prog.info? 9).map (fun i => (i.zero, i.size, i.bytes)) = some (some (.string ⟨#[]⟩), 1, 16) := by kernel_rfl
def strSz : Value → Nat
  | .string s => s.size
  | _ => 0
def mkS (l : List UInt8) : ByteArray := ⟨l.toArray⟩
theorem mkS_list (l : List UInt8) : (mkS l).data.toList = l := rfl
theorem mkS_size (l : List UInt8) : (mkS l).size = l.length := List.size_toArray
theorem mkS_of (s : ByteArray) : mkS s.data.toList = s := by apply ByteArray.ext; apply Array.toList_inj.1; rfl
theorem mkS_append (a b : List UInt8) : mkS a ++ mkS b = mkS (a ++ b) := by apply ByteArray.ext; apply Array.toList_inj.1; simp [mkS]
theorem be_cons (k x q : Nat) (hq : q = x / 256 ^ k) : [Value.int .u8 ((q : Int) % 256)] ++ bv (be k x) = bv (be (k + 1) x) := by
  have e : bv (be (k + 1) x) = bv [UInt8.ofNat (x / 256 ^ k)] ++ bv (be k x) := by rw [← bv_append]; rfl
  rw [e, bv_one (UInt8.ofNat (x / 256 ^ k)) ((q : Int) % 256) (by rw [UInt8.toNat_ofNat', hq, Int.natCast_emod]; rfl)]
theorem div_next (x k q : Nat) (hq : q = x / 256 ^ k) : q / 256 = x / 256 ^ (k + 1) := by rw [hq, Nat.div_div_eq_div_mul, ← Nat.pow_succ]
set_option maxRecDepth 20000 in
set_option maxHeartbeats 1000000 in
theorem RefNum_any (w : World) (x m : Nat) (hx : x < 18446744073709551616) (hm : m ≤ 8) :
    Calls Tryd.prog 60 #[.int .u64 x, .int .i64 m] w fun e w' => e = .returned (.string (mkS (be m x))) ∧ Below w.heap.size w w' := by
  have HOT := Lib.hid (show Owns (w.alloc (.cells #[] 5)) w.heap.size 5 (.slice (some ⟨w.heap.size, 0, none⟩) 0 0) (bv (be 0 x)) from Owns.new w _ _ [] (Nat.le_refl _) (by decide))
  have HBT := Lib.hid (show Below w.heap.size w (w.alloc (.cells #[] 5)) from (Below.refl _ _).alloc (Nat.le_refl _) _)
  go_enter Tryd.func60, Tryd.ntmps60
  go_wp2_with fail
  go_loopw [0, 5, 6] (fun q v i wr => ∃ k y : Nat, k ≤ m ∧ i = .int .i64 k ∧ q = .int .u64 y ∧ y = x / 256 ^ k ∧ Owns wr w.heap.size 5 v (bv (be k x)) ∧ Below w.heap.size w wr) (fun _ _ i _ => m - (intOf i).toNat)
  case atStart => exact ⟨0, x, Nat.zero_le _, rfl, rfl, by simp, HOT.out, HBT.out⟩
  case round =>
    obtain ⟨k, y, hk, rfl, rfl, hy, hO, hb⟩ := hrel
    have hyl : y ≤ x := by rw [hy]; exact Nat.div_le_self _ _
    obtain ⟨A, c, rfl, hR, hc⟩ := hO.form
    rw [bv_length, be_length] at hO hc ⊢
    have HX := Lib.hid hy
    have HOk := Lib.hid hO
    have HR := Lib.hid hR
    have HB := Lib.hid hb
    have hszb := hb.size
    clear hy hO hR hb HOT HBT
    by_cases hkm : k < m
    · have hd : decide (k < m) = true := by simp; exact hkm
      go_wp2_with (at_builtin; refine app rfl _ _ _ rfl Tryd.underlying35 infoU8 rfl (by decide) (Owns.new wr w.heap.size 5 [.int .u8 ((y : Int) % 256)] hszb (show 1 ≤ maxLen by decide)) rfl rfl (by rw [bv_length, be_length]) (HR.out.below ((Below.refl _ _).alloc (Nat.le_refl _) _)) (bv_cells _) ?_ ?_ ?_
                   · simp; omega
                   · simp; omega
                   intro v' w3 hO' hg' _
                   have HO' := Lib.hid (hO'.cast (be_cons k x y HX.out))
                   have HB' := Lib.hid ((HB.out.alloc hszb _).grown hg' (by simp; omega) (fun k hk => by cases hk; exact hszb))
                   clear hO' hg')
      go_roundw
      case rel =>
        first
          | exact ⟨k + 1, y / 256, by omega, by go_num, by go_num, div_next _ _ _ HX.out, HO'.out, HB'.out⟩
          | ((repeat apply Exists.intro); refine ⟨?_, rfl⟩; exact ⟨k + 1, y / 256, by omega, by go_num, by go_num, div_next _ _ _ HX.out, HO'.out, HB'.out⟩)
      case measure => simp [intOf]; omega
    · obtain rfl : k = m := by omega
      go_wp2_with (refine str rfl 35 5 9 _ rfl Tryd.underlying35 Tryd.underlying5 Tryd.underlying9 HOk.out rfl ?_; skip)
      go_ret
      exact ⟨rfl, HB.out⟩
theorem textL_eq (s : ByteArray) : mkS (be 4 s.size) ++ s = mkS (textL s.data.toList) := by
  unfold textL
  rw [len_list, ← mkS_append, mkS_of]
set_option maxHeartbeats 400000 in
theorem RefText_any (w : World) (s : ByteArray) (hs : s.size ≤ 1000000) :
    Calls Tryd.prog 61 #[.string s] w fun e w' => e = .returned (.string (mkS (textL s.data.toList))) ∧ Below w.heap.size w w' := by
  have HS := Lib.hid (mkS_size (be 4 s.size))
  have hq : ¬ 9223372036854775807 < (mkS (be 4 s.size)).size + s.size := by rw [HS.out, be_length]; omega
  go_enter Tryd.func61, Tryd.ntmps61
  go_wp2_with (go_at_call 60; refine (RefNum_any _ s.size 4 (by omega) (by decide)).mono ?_; rintro e w1 ⟨rfl, hb1⟩; skip; have HB1 := Lib.hid hb1; clear hb1)
  go_ret
  exact ⟨by rw [← textL_eq]; rfl, HB1.out⟩
theorem join_snoc (xs : List (List UInt8)) (x sep : List UInt8) : Lib.join (xs ++ [x]) sep = if xs = [] then x else Lib.join xs sep ++ (sep ++ x) := by
  cases xs with
  | nil => simp [Lib.join_one]
  | cons y r =>
    rw [List.cons_append, Lib.join_cons, Lib.join_cons, if_neg (by simp)]
    simp [Lib.joinTail]
theorem joinC_take (xs : List ByteArray) (k : Nat) (x : ByteArray) (h : xs[k]? = some x) : joinC (xs.take (k + 1)) = if k = 0 then x.data.toList else joinC (xs.take k) ++ (44 :: x.data.toList) := by
  have hk : k < xs.length := (List.getElem?_eq_some_iff.1 h).1
  unfold joinC
  rw [List.take_add_one, h, Option.toList_some, List.map_append, List.map_singleton, join_snoc]
  by_cases h0 : k = 0
  · subst h0; simp
  · rw [if_neg h0, if_neg (by
      intro e
      have h1 := congrArg List.length e
      rw [List.length_map, List.length_take, List.length_nil] at h1
      omega)]
    rfl
theorem joinC_le (xs : List ByteArray) (k : Nat) (hk : k ≤ xs.length) (hx : ∀ x ∈ xs, x.size ≤ 70) : (joinC (xs.take k)).length ≤ 71 * k := by
  induction k with
  | zero => simp [joinC, Lib.join_nil]
  | succ k ih =>
    have h := List.getElem?_eq_getElem (show k < xs.length by omega)
    have hs := hx _ (List.mem_of_getElem? h)
    rw [joinC_take xs k _ h]
    have := ih (by omega)
    split
    · rw [len_list]; omega
    · rw [List.length_append, List.length_cons, len_list]; omega
set_option maxRecDepth 20000 in
set_option maxHeartbeats 1000000 in
theorem RefNames_any (w : World) (A : Option Addr) (n c : Nat) (xs : List ByteArray) (hn : xs.length = n) (hN : n ≤ 100) (hR : Rd w A (xs.map Value.string)) (hx : ∀ x ∈ xs, x.size ≤ 70) :
    Calls Tryd.prog 50 #[.slice A n c] w fun e w' => e = .returned (.string (mkS (textL (joinC xs)))) ∧ Below w.heap.size w w' := by
  have HN := Lib.hid hn
  have HR := Lib.hid hR
  have HXs := Lib.hid hx
  have HJL := Lib.hid (fun k hk => joinC_le xs k hk hx)
  clear hn hR hx
  go_enter Tryd.func50, Tryd.ntmps50
  go_wp2_with fail
  go_loop [3, 8] (fun s i => ∃ (k : Nat) (t : ByteArray), k ≤ n ∧ i = .int .i64 k ∧ s = .string t ∧ t.data.toList = joinC (xs.take k)) (fun _ i => n - (intOf i).toNat)
  case atStart => exact ⟨0, _, Nat.zero_le _, rfl, rfl, rfl⟩
  case round =>
    obtain ⟨k, t, hk, rfl, rfl, ht⟩ := hrel
    have htl : t.size ≤ 7100 := by
      have := HJL.out k (by rw [HN.out]; exact hk)
      rw [← ht, len_list] at this; omega
    have HT := Lib.hid ht
    clear ht
    by_cases hkn : k < n
    · have hd : decide (k < n) = true := by simp; exact hkn
      obtain ⟨b, o, rfl, hbl, hcell⟩ := HR.out.at_ (j := k) (by rw [List.length_map, HN.out]; exact hkn)
      rw [List.getElem_map] at hcell
      have hx : xs[k]? = some (xs[k]'(by rw [HN.out]; exact hkn)) := List.getElem?_eq_getElem _
      have hxl := HXs.out _ (List.mem_of_getElem? hx)
      generalize xs[k]'(by rw [HN.out]; exact hkn) = x at *
      have HJ := Lib.hid (joinC_take xs k x hx)
      have hik : (k : Int) < n := by omega
      have hq1 : ¬ 9223372036854775807 < t.size + 1 := by omega
      have hq2 : ¬ 9223372036854775807 < t.size + 1 + x.size := by omega
      have hq3 : ¬ 9223372036854775807 < t.size + x.size := by omega
      have HS1 := Lib.hid (show (t ++ (⟨#[44]⟩ : ByteArray)).size = t.size + 1 by rw [ByteArray.size_append]; rfl)
      have hq4 : ¬ 9223372036854775807 < (t ++ (⟨#[44]⟩ : ByteArray)).size + x.size := by rw [HS1.out]; omega
      clear hx
      by_cases h0 : k = 0
      · subst h0
        have ht0 : t = ⟨#[]⟩ := by have := mkS_of t; rw [HT.out] at this; exact this.symm
        rw [Nat.add_zero] at hcell
        have HT1 := Lib.hid (show (t ++ x).data.toList = joinC (xs.take (0 + 1)) by rw [HJ.out, if_pos rfl, ht0]; simp)
        clear ht0
        go_wp2_with fail
        go_round
        case rel =>
          first
            | exact ⟨0 + 1, _, by omega, by go_num, rfl, HT1.out⟩
            | ((repeat apply Exists.intro); refine ⟨?_, rfl⟩; exact ⟨0 + 1, _, by omega, by go_num, rfl, HT1.out⟩)
        case measure => simp [intOf]; omega
      · have hk0 : (0 : Int) < k := by omega
        have HT1 := Lib.hid (show ((t ++ (⟨#[44]⟩ : ByteArray)) ++ x).data.toList = joinC (xs.take (k + 1)) by rw [HJ.out, if_neg h0]; simp [HT.out])
        clear h0
        go_wp2_with fail
        go_round
        case rel =>
          first
            | exact ⟨k + 1, _, by omega, by go_num, rfl, HT1.out⟩
            | ((repeat apply Exists.intro); refine ⟨?_, rfl⟩; exact ⟨k + 1, _, by omega, by go_num, rfl, HT1.out⟩)
        case measure => simp [intOf]; omega
    · obtain rfl : k = n := by omega
      have HJX := Lib.hid (show t.data.toList = joinC xs by rw [HT.out, List.take_of_length_le (Nat.le_of_eq HN.out)])
      go_wp2_with (go_at_call 61; refine (RefText_any _ t (by omega)).mono ?_; rintro e w1 ⟨rfl, hb1⟩; skip; have HB1 := Lib.hid hb1; clear hb1)
      go_ret
      exact ⟨by rw [← HJX.out]; rfl, HB1.out⟩
theorem strip_drop (t : ByteArray) (h : 0 < t.size) (h0 : t[0] = 0) : strip (t.extract 1 t.size).data.toList = strip t.data.toList := by
  obtain ⟨⟨l⟩⟩ := t
  cases l with
  | nil => exact absurd h (Nat.lt_irrefl 0)
  | cons x l =>
    have hx : x = 0 := h0
    subst hx
    unfold strip
    rw [List.dropWhile_cons, if_pos (by rfl)]
    congr 1
    simp
    exact List.take_of_length_le (by show l.length ≤ _; simp [ByteArray.size])
theorem strip_stop (t : ByteArray) (h : 0 < t.size) (h0 : t[0] ≠ 0) : strip t.data.toList = t.data.toList := by
  obtain ⟨⟨l⟩⟩ := t
  cases l with
  | nil => exact absurd h (Nat.lt_irrefl 0)
  | cons x l =>
    have hx : x ≠ 0 := h0
    unfold strip
    rw [List.dropWhile_cons, if_neg (by simpa using hx)]
theorem strip_empty (t : ByteArray) (h : t.size = 0) : strip t.data.toList = t.data.toList := by rw [empty_of_size h]; rfl
theorem bigL_of (s t : ByteArray) (h : strip t.data.toList = strip s.data.toList) (h2 : strip t.data.toList = t.data.toList) : bigL s.data.toList = if 128 ≤ (t.data.toList.headD 0).toNat then 0 :: t.data.toList else t.data.toList := by
  unfold bigL; rw [← h, h2]
theorem zero_append (t : ByteArray) : (⟨#[0]⟩ : ByteArray) ++ t = mkS (0 :: t.data.toList) := by apply ByteArray.ext; apply Array.toList_inj.1; simp [mkS]
end Go.Proofs.YtjfikbnfabdkoaaDoor.Wi
