/- wire.In: big numbers. The laws' Cut: a text's first bytes. Fields as bytes: the reference. Stores into blocks known whole; rows of texts. -/
import Derived.Test.YtfaeigbfnjkojaaGreatDoorWirA
import Derived.Test.YtfaeigbfnjkojaaGreatDoorGenA
set_option linter.unusedVariables false
set_option linter.unusedSimpArgs false
namespace Go.Proofs.YtfaeigbfnjkojaaGreatDoor.Wi
open Go.RowKit Go.Proofs.YtfaeigbfnjkojaaGreatDoor.Ow
def bmost (most : Int) : Int := if 4096 < most then 4096 else most
def bq (most : Int) : Int := max (bmost most) 0 + 1
/-- a text without the zero ahead -/
def tp (r : ByteArray) : ByteArray := ⟨(Lib.trimPrefix r.data.toList [0]).toArray⟩
/-- may a text not be a number's? -/
def badB (l t : List UInt8) : Bool := decide (128 ≤ (l.headD 0).toNat) || decide (t = []) || (decide (t ≠ l) && decide ((t.headD 0).toNat < 128))
def bigK (s : ByteArray) (c : Nat) (most : Int) : Nat :=
  if (txtR s c (bq most)).size = 0 then 0
  else if badB (txtR s c (bq most)).data.toList (tp (txtR s c (bq most))).data.toList then 3
  else if bmost most < ((tp (txtR s c (bq most))).size : Int) then 4 else 1
def bigR (s : ByteArray) (c : Nat) (most : Int) : ByteArray := if bigK s c most = 1 then tp (txtR s c (bq most)) else ⟨#[]⟩
def bigS (s : ByteArray) (c : Nat) (most : Int) : ByteArray := if bigK s c most ≤ 1 then txtS s c (bq most) else ⟨#[]⟩
def bigC (s : ByteArray) (c : Nat) (most : Int) : Nat := if bigK s c most ≤ 1 then txtC s c (bq most) else bigK s c most
theorem rawR_pos {s : ByteArray} {c n : Nat} (h : (rawR s c n).size ≠ 0) : rawC s c n = 0 := by
  unfold rawR at h
  split at h
  · rename_i hc; unfold rawC; rw [if_pos hc.1, if_pos hc.2]
  · exact absurd rfl h
theorem txtR_pos {s : ByteArray} {c : Nat} {most : Int} (h : (txtR s c most).size ≠ 0) : txtC s c most = 0 := by
  unfold txtR at h
  unfold txtC
  split at h
  · exact absurd rfl h
  · rename_i hb; rw [if_neg hb]; exact rawR_pos h
theorem txtR_size (s : ByteArray) (c : Nat) (most : Int) : (txtR s c most).size ≤ s.size := by
  unfold txtR
  split
  · exact Nat.zero_le _
  · unfold rawR
    split
    · rw [ByteArray.size_extract]
      have := rawS_size s c 4
      omega
    · exact Nat.zero_le _
theorem tp_zero {r : ByteArray} (h : 0 < r.size) (h0 : r[0] = 0) : (tp r).data.toList = r.data.toList.drop 1 := by
  obtain ⟨⟨l⟩⟩ := r
  cases l with
  | nil => exact absurd h (Nat.lt_irrefl 0)
  | cons x l =>
    have : x = 0 := h0
    subst this
    rfl
theorem tp_same {r : ByteArray} (h : 0 < r.size) (h0 : r[0] ≠ 0) : tp r = r := by
  obtain ⟨⟨l⟩⟩ := r
  cases l with
  | nil => exact absurd h (Nat.lt_irrefl 0)
  | cons x l =>
    have hx : x ≠ 0 := h0
    unfold tp Lib.trimPrefix Lib.hasPrefix
    simp [hx, Ne.symm hx]
theorem head_get' (s : ByteArray) (h : 0 < s.size) : s.data.toList.headD 0 = s[0] := by
  obtain ⟨⟨l⟩⟩ := s
  cases l with
  | nil => exact absurd h (Nat.lt_irrefl 0)
  | cons x l => rfl
end Go.Proofs.YtfaeigbfnjkojaaGreatDoor.Wi
namespace Go.Proofs.YtfaeigbfnjkojaaGreatDoor.Wi
open Go.RowKit Go.Proofs.YtfaeigbfnjkojaaGreatDoor.Ow Go.Proofs.YtfaeigbfnjkojaaGreatDoor.Be
theorem Cut_any (w : World) (s : ByteArray) (n : Nat) (hn : n ≤ 1000000) : Calls Tryz.prog 35 #[.string s, .int .i64 n] w fun e w' => e = .returned (.string (s.extract 0 n)) ∧ w = w' := by
  by_cases h : n < s.size
  · go_enter Tryz.func35, Tryz.ntmps35
    go_wp2
    go_ret
    exact ⟨by simp, rfl⟩
  · have e : s.extract 0 n = s := by
      apply ByteArray.ext
      simp
      omega
    have h' : ¬ (n : Int) < s.size := by omega
    go_enter Tryz.func35, Tryz.ntmps35
    go_wp2
    go_ret
    exact ⟨rfl, rfl⟩
end Go.Proofs.YtfaeigbfnjkojaaGreatDoor.Wi
namespace Go.Proofs.YtfaeigbfnjkojaaGreatDoor.Wi
open Go.RowKit Go.Proofs.YtfaeigbfnjkojaaGreatDoor.Ow Go.Proofs.YtfaeigbfnjkojaaGreatDoor.Be
theorem infoU8 : (Tryz.prog.info? 5).map (fun i => (i.zero, i.size, i.bytes)) = some (some (.int .u8 0), 1, 1) := by kernel_rfl
theorem infoStr : (Tryz.prog.info? 9).map (fun i => (i.zero, i.size, i.bytes)) = some (some (.string ⟨#[]⟩), 1, 16) := by kernel_rfl
def strSz : Value → Nat
  | .string s => s.size
  | _ => 0
def mkS (l : List UInt8) : ByteArray := ⟨l.toArray⟩
theorem mkS_list (l : List UInt8) : (mkS l).data.toList = l := rfl
theorem mkS_size (l : List UInt8) : (mkS l).size = l.length := List.size_toArray
theorem mkS_of (s : ByteArray) : mkS s.data.toList = s := by apply ByteArray.ext; apply Array.toList_inj.1; rfl
theorem mkS_append (a b : List UInt8) : mkS a ++ mkS b = mkS (a ++ b) := by apply ByteArray.ext; apply Array.toList_inj.1; simp [mkS]
theorem be_cons (k x q : Nat) (hq : q = x / 256 ^ k) : [Value.int .u8 ((q : Int) % 256)] ++ bv (be k x) = bv (be (k + 1) x) := by
  have e : bv (be (k + 1) x) = bv [UInt8.ofNat (x / 256 ^ k)] ++ bv (be k x) := by rw [← bv_append]; rfl
  rw [e, bv_one (UInt8.ofNat (x / 256 ^ k)) ((q : Int) % 256) (by rw [UInt8.toNat_ofNat', hq, Int.natCast_emod]; rfl)]
theorem div_next (x k q : Nat) (hq : q = x / 256 ^ k) : q / 256 = x / 256 ^ (k + 1) := by rw [hq, Nat.div_div_eq_div_mul, ← Nat.pow_succ]
set_option maxRecDepth 20000 in
set_option maxHeartbeats 1000000 in
theorem RefNum_any (w : World) (x m : Nat) (hx : x < 18446744073709551616) (hm : m ≤ 8) :
    Calls Tryz.prog 58 #[.int .u64 x, .int .i64 m] w fun e w' => e = .returned (.string (mkS (be m x))) ∧ Below w.heap.size w w' := by
  have HOT := Lib.hid (show Owns (w.alloc (.cells #[] 5)) w.heap.size 5 (.slice (some ⟨w.heap.size, 0, none⟩) 0 0) (bv (be 0 x)) from Owns.new w _ _ [] (Nat.le_refl _) (by decide))
  have HBT := Lib.hid (show Below w.heap.size w (w.alloc (.cells #[] 5)) from (Below.refl _ _).alloc (Nat.le_refl _) _)
  go_enter Tryz.func58, Tryz.ntmps58
  go_wp2_with fail
  go_loopw [0, 5, 6] (fun q v i wr => ∃ k y : Nat, k ≤ m ∧ i = .int .i64 k ∧ q = .int .u64 y ∧ y = x / 256 ^ k ∧ Owns wr w.heap.size 5 v (bv (be k x)) ∧ Below w.heap.size w wr) (fun _ _ i _ => m - (intOf i).toNat)
  case atStart => exact ⟨0, x, Nat.zero_le _, rfl, rfl, by simp, HOT.out, HBT.out⟩
  case round =>
    obtain ⟨k, y, hk, rfl, rfl, hy, hO, hb⟩ := hrel
    have hyl : y ≤ x := by rw [hy]; exact Nat.div_le_self _ _
    obtain ⟨A, c, rfl, hR, hc⟩ := hO.form
    rw [bv_length, be_length] at hO hc ⊢
    have HX := Lib.hid hy
    have HOk := Lib.hid hO
    have HR := Lib.hid hR
    have HB := Lib.hid hb
    have hszb := hb.size
    clear hy hO hR hb HOT HBT
    by_cases hkm : k < m
    · have hd : decide (k < m) = true := by simp; exact hkm
      go_wp2_with (at_builtin; refine app rfl _ _ _ rfl Tryz.underlying36 infoU8 rfl (by decide) (Owns.new wr w.heap.size 5 [.int .u8 ((y : Int) % 256)] hszb (show 1 ≤ maxLen by decide)) rfl rfl (by rw [bv_length, be_length]) (HR.out.below ((Below.refl _ _).alloc (Nat.le_refl _) _)) (bv_cells _) ?_ ?_ ?_
                   · simp; omega
                   · simp; omega
                   intro v' w3 hO' hg' _
                   have HO' := Lib.hid (hO'.cast (be_cons k x y HX.out))
                   have HB' := Lib.hid ((HB.out.alloc hszb _).grown hg' (by simp; omega) (fun k hk => by cases hk; exact hszb))
                   clear hO' hg')
      go_roundw
      case rel =>
        first
          | exact ⟨k + 1, y / 256, by omega, by go_num, by go_num, div_next _ _ _ HX.out, HO'.out, HB'.out⟩
          | ((repeat apply Exists.intro); refine ⟨?_, rfl⟩; exact ⟨k + 1, y / 256, by omega, by go_num, by go_num, div_next _ _ _ HX.out, HO'.out, HB'.out⟩)
      case measure => simp [intOf]; omega
    · obtain rfl : k = m := by omega
      go_wp2_with (refine str rfl 36 5 9 _ rfl Tryz.underlying36 Tryz.underlying5 Tryz.underlying9 HOk.out rfl ?_; skip)
      go_ret
      exact ⟨rfl, HB.out⟩
theorem textL_eq (s : ByteArray) : mkS (be 4 s.size) ++ s = mkS (textL s.data.toList) := by
  unfold textL
  rw [len_list, ← mkS_append, mkS_of]
set_option maxHeartbeats 400000 in
theorem RefText_any (w : World) (s : ByteArray) (hs : s.size ≤ 1000000) :
    Calls Tryz.prog 37 #[.string s] w fun e w' => e = .returned (.string (mkS (textL s.data.toList))) ∧ Below w.heap.size w w' := by
  have HS := Lib.hid (mkS_size (be 4 s.size))
  have hq : ¬ 9223372036854775807 < (mkS (be 4 s.size)).size + s.size := by rw [HS.out, be_length]; omega
  go_enter Tryz.func37, Tryz.ntmps37
  go_wp2_with (go_at_call 58; refine (RefNum_any _ s.size 4 (by omega) (by decide)).mono ?_; rintro e w1 ⟨rfl, hb1⟩; skip; have HB1 := Lib.hid hb1; clear hb1)
  go_ret
  exact ⟨by rw [← textL_eq]; rfl, HB1.out⟩
theorem join_snoc (xs : List (List UInt8)) (x sep : List UInt8) : Lib.join (xs ++ [x]) sep = if xs = [] then x else Lib.join xs sep ++ (sep ++ x) := by
  cases xs with
  | nil => simp [Lib.join_one]
  | cons y r =>
    rw [List.cons_append, Lib.join_cons, Lib.join_cons, if_neg (by simp)]
    simp [Lib.joinTail]
theorem joinC_take (xs : List ByteArray) (k : Nat) (x : ByteArray) (h : xs[k]? = some x) : joinC (xs.take (k + 1)) = if k = 0 then x.data.toList else joinC (xs.take k) ++ (44 :: x.data.toList) := by
  have hk : k < xs.length := (List.getElem?_eq_some_iff.1 h).1
  unfold joinC
  rw [List.take_add_one, h, Option.toList_some, List.map_append, List.map_singleton, join_snoc]
  by_cases h0 : k = 0
  · subst h0; simp
  · rw [if_neg h0, if_neg (by
      intro e
      have h1 := congrArg List.length e
      rw [List.length_map, List.length_take, List.length_nil] at h1
      omega)]
    rfl
theorem joinC_le (xs : List ByteArray) (k : Nat) (hk : k ≤ xs.length) (hx : ∀ x ∈ xs, x.size ≤ 70) : (joinC (xs.take k)).length ≤ 71 * k := by
  induction k with
  | zero => simp [joinC, Lib.join_nil]
  | succ k ih =>
    have h := List.getElem?_eq_getElem (show k < xs.length by omega)
    have hs := hx _ (List.mem_of_getElem? h)
    rw [joinC_take xs k _ h]
    have := ih (by omega)
    split
    · rw [len_list]; omega
    · rw [List.length_append, List.length_cons, len_list]; omega
theorem strip_drop (t : ByteArray) (h : 0 < t.size) (h0 : t[0] = 0) : strip (t.extract 1 t.size).data.toList = strip t.data.toList := by
  obtain ⟨⟨l⟩⟩ := t
  cases l with
  | nil => exact absurd h (Nat.lt_irrefl 0)
  | cons x l =>
    have hx : x = 0 := h0
    subst hx
    unfold strip
    rw [List.dropWhile_cons, if_pos (by rfl)]
    congr 1
    simp
    exact List.take_of_length_le (by show l.length ≤ _; simp [ByteArray.size])
theorem strip_stop (t : ByteArray) (h : 0 < t.size) (h0 : t[0] ≠ 0) : strip t.data.toList = t.data.toList := by
  obtain ⟨⟨l⟩⟩ := t
  cases l with
  | nil => exact absurd h (Nat.lt_irrefl 0)
  | cons x l =>
    have hx : x ≠ 0 := h0
    unfold strip
    rw [List.dropWhile_cons, if_neg (by simpa using hx)]
theorem strip_empty (t : ByteArray) (h : t.size = 0) : strip t.data.toList = t.data.toList := by rw [empty_of_size h]; rfl
theorem bigL_of (s t : ByteArray) (h : strip t.data.toList = strip s.data.toList) (h2 : strip t.data.toList = t.data.toList) : bigL s.data.toList = if 128 ≤ (t.data.toList.headD 0).toNat then 0 :: t.data.toList else t.data.toList := by
  unfold bigL; rw [← h, h2]
theorem zero_append (t : ByteArray) : (⟨#[0]⟩ : ByteArray) ++ t = mkS (0 :: t.data.toList) := by apply ByteArray.ext; apply Array.toList_inj.1; simp [mkS]
set_option maxRecDepth 20000 in
set_option maxHeartbeats 1000000 in
theorem RefBig_any (w : World) (s : ByteArray) (hs : s.size ≤ 999990) :
    Calls Tryz.prog 34 #[.string s] w fun e w' => e = .returned (.string (mkS (textL (bigL s.data.toList)))) ∧ Below w.heap.size w w' := by
  go_enter Tryz.func34, Tryz.ntmps34
  go_wp2_with fail
  go_loop [0] (fun v => ∃ t : ByteArray, t.size ≤ s.size ∧ v = .string t ∧ strip t.data.toList = strip s.data.toList) (fun v => strSz v)
  case atStart => exact ⟨s, Nat.le_refl _, rfl, rfl⟩
  case round =>
    obtain ⟨t, hts, rfl, hst⟩ := hrel
    have HST := Lib.hid hst
    clear hst
    by_cases h0 : t.size = 0
    · have hl := toList_empty h0
      have hl2 : t.toList.isEmpty = true := by rw [hl]; rfl
      have HBL := Lib.hid (show bigL s.data.toList = t.data.toList by rw [bigL_of s t HST.out (strip_empty t h0), if_neg (by rw [empty_of_size h0]; decide)])
      clear h0
      go_wp2_with (go_at_call 37; refine (RefText_any _ t (by omega)).mono ?_; rintro e w1 ⟨rfl, hb1⟩; skip; have HB1 := Lib.hid hb1; clear hb1)
      go_ret
      exact ⟨by rw [HBL.out]; rfl, HB1.out⟩
    · have hl2 := toList_ne h0
      have htp : 0 < t.size := by omega
      have HH := Lib.hid (head_get' t htp)
      by_cases hz : t[0] = 0
      · have hd : ((t[0].toNat : Int) == 0) = true := by rw [hz]; rfl
        have HS2 := Lib.hid ((strip_drop t htp hz).trans HST.out)
        have HSZ := Lib.hid (show (t.extract 1 t.size).size = t.size - 1 by rw [ByteArray.size_extract]; omega)
        have hI : (1 : Int) ≤ t.size := by omega
        clear hz h0
        go_wp2_with fail
        go_round
        case rel => exact ⟨_, by rw [HSZ.out]; omega, rfl, HS2.out⟩
        case measure =>
          show (t.extract 1 t.size).size < t.size
          rw [HSZ.out]; omega
      · have hd : ((t[0].toNat : Int) == 0) = false := by
          rw [beq_eq_false_iff_ne]; intro e; apply hz; apply UInt8.toNat_inj.1; simpa using e
        by_cases h8 : 128 ≤ t[0].toNat
        · have HBL := Lib.hid (show mkS (bigL s.data.toList) = (⟨#[0]⟩ : ByteArray) ++ t by rw [bigL_of s t HST.out (strip_stop t htp hz), if_pos (by rw [HH.out]; exact h8), zero_append])
          have HBD := Lib.hid (show ((⟨#[0]⟩ : ByteArray) ++ t).data.toList = bigL s.data.toList by rw [← HBL.out]; rfl)
          have hd2 : decide ((127 : Int) < (t[0].toNat : Int)) = true := by rw [decide_eq_true_eq]; omega
          have hq : ¬ 9223372036854775807 < 1 + t.size := by omega
          have HAS := Lib.hid (show ((⟨#[0]⟩ : ByteArray) ++ t).size = 1 + t.size by rw [ByteArray.size_append]; rfl)
          clear hz h0 h8
          go_wp2_with (first
            | (refine Cv.conv_string rfl 36 5 9 _ rfl Tryz.underlying36 Tryz.underlying5 Tryz.underlying9 _ 0 1 1 [0] rfl rfl (Cv.one_byte _ _ _ _ rfl) ?_)
            | (go_at_call 37; refine (RefText_any _ _ (by rw [HAS.out]; omega)).mono ?_; rintro e w1 ⟨rfl, hb1⟩; skip; have HB1 := Lib.hid hb1; clear hb1))
          go_ret
          exact ⟨by rw [← HBD.out]; rfl, ((Below.refl _ _).alloc (Nat.le_refl _) _).trans (HB1.out.mono (by simp))⟩
        · have HBL := Lib.hid (show bigL s.data.toList = t.data.toList by rw [bigL_of s t HST.out (strip_stop t htp hz), if_neg (by rw [HH.out]; exact h8)])
          have hd2 : decide ((127 : Int) < (t[0].toNat : Int)) = false := by rw [decide_eq_false_iff_not]; omega
          clear hz h0 h8
          go_wp2_with (go_at_call 37; refine (RefText_any _ t (by omega)).mono ?_; rintro e w1 ⟨rfl, hb1⟩; skip; have HB1 := Lib.hid hb1; clear hb1)
          go_ret
          exact ⟨by rw [HBL.out]; rfl, HB1.out⟩
end Go.Proofs.YtfaeigbfnjkojaaGreatDoor.Wi
namespace Go.Proofs.YtfaeigbfnjkojaaGreatDoor.Wi
open Go.RowKit Go.Proofs.YtfaeigbfnjkojaaGreatDoor.Ow Go.Proofs.YtfaeigbfnjkojaaGreatDoor.Be Go.Proofs.YtfaeigbfnjkojaaGreatDoor.Cl Go.Proofs.YtfaeigbfnjkojaaGreatDoor.Cv
variable {P : Program}
theorem store_string {ops : Array Oper} {rest : List Oper} {o : Oper} {a : Act} {w : World} {Q : Exit → Act → World → Prop} (hgd : o.guard = none) (ty : TypeId) (x y : Operand) (ho : o.op = .store ty x y)
    {b j T : Nat} {cs : Array Value} {old : Value} {s : ByteArray} (hx : a.eval x = .pointer (some ⟨b, j, none⟩)) (hy : a.eval y = .string s) (hu : P.underlying ty = some .string) (hi : (P.info? ty).map (·.size) = some 1) (hR : Rg.Blk w b T cs) (hj : cs[j]? = some old)
    (h : ∀ w', Rg.Blk w' b T (cs.setIfInBounds j (.string s)) → w.grownBy w' (some b) → wpList P ops Q rest (a.put o.dst undef) w') : wpList P ops Q (o :: rest) a w :=
  wpList_plain hgd fun _ hK => by
    have hx' := hx
    have hy' := hy
    have hc := hR.cell j hj
    have hf := hR.frozen j
    simp [go_sem] at hx' hy'
    unfold Oper.wp execOp
    cases hq : P.info? ty with
    | none => simp [hq] at hi
    | some i =>
    have hs : i.size = 1 := by simpa [hq] using hi
    simp [ho, hx', hy', go_sem, hc, hf, hu, sizeOf, typeInfo, hq, hs]
    have hB : Rg.Blk (w.setCell ⟨b, j, none⟩ (.string s)) b T (cs.setIfInBounds j (.string s)) := by
      have h2 := hR
      unfold Rg.Blk at *
      rw [heap_setCell_same w b j _ _ _ h2]
    have := hK _ _ (h _ hB (grown_setCell w b j _))
    simpa [go_sem] using this
theorem store_slice {ops : Array Oper} {rest : List Oper} {o : Oper} {a : Act} {w : World} {Q : Exit → Act → World → Prop} (hgd : o.guard = none) (ty : TypeId) (x y : Operand) (ho : o.op = .store ty x y)
    {b j T : Nat} {cs : Array Value} {old : Value} {A : Option Addr} {n c : Nat} {e : TypeId} (hx : a.eval x = .pointer (some ⟨b, j, none⟩)) (hy : a.eval y = .slice A n c) (hu : P.underlying ty = some (.slice e)) (hi : (P.info? ty).map (·.size) = some 1) (hR : Rg.Blk w b T cs) (hj : cs[j]? = some old)
    (h : ∀ w', Rg.Blk w' b T (cs.setIfInBounds j (.slice A n c)) → w.grownBy w' (some b) → wpList P ops Q rest (a.put o.dst undef) w') : wpList P ops Q (o :: rest) a w :=
  wpList_plain hgd fun _ hK => by
    have hx' := hx
    have hy' := hy
    have hc := hR.cell j hj
    have hf := hR.frozen j
    simp [go_sem] at hx' hy'
    unfold Oper.wp execOp
    cases hq : P.info? ty with
    | none => simp [hq] at hi
    | some i =>
    have hs : i.size = 1 := by simpa [hq] using hi
    simp [ho, hx', hy', go_sem, hc, hf, hu, sizeOf, typeInfo, hq, hs]
    have hB : Rg.Blk (w.setCell ⟨b, j, none⟩ (.slice A n c)) b T (cs.setIfInBounds j (.slice A n c)) := by
      have h2 := hR
      unfold Rg.Blk at *
      rw [heap_setCell_same w b j _ _ _ h2]
    have := hK _ _ (h _ hB (grown_setCell w b j _))
    simpa [go_sem] using this
theorem blk_grown {w w' : World} {b g T : Nat} {cs : Array Value} (h : Rg.Blk w b T cs) (hg : w.grownBy w' (some g)) (hn : b ≠ g) : Rg.Blk w' b T cs := by
  unfold Rg.Blk at *
  rw [hg.block b (Array.getElem?_eq_some_iff.1 h).1 (fun e => hn (Option.some.inj e))]; exact h
/-- the slice address A reads as the values xs, in one row of texts from block B on -/
def RdS (w : World) (B : Nat) (A : Option Addr) (xs : List Value) : Prop := ∀ (j : Nat) (x : Value), xs[j]? = some x → ∃ (g : Nat) (cur : Array Value) (fz : Nat × Nat), A = some ⟨g, 0, none⟩ ∧ B ≤ g ∧ w.heap[g]? = some (.cells cur 9 fz) ∧ cur[j]? = some x
theorem RdS.rd {w : World} {B : Nat} {A : Option Addr} {xs : List Value} (h : RdS w B A xs) : Rd w A xs := fun j x hx => by
  obtain ⟨g, cur, fz, hA, _, hg, hc⟩ := h j x hx
  exact ⟨g, 0, hA, (Array.getElem?_eq_some_iff.1 hg).1, by rw [Nat.zero_add]; exact (Lib.cell_of_heap hg j).trans hc⟩
theorem RdS.below {w w' : World} {B : Nat} {A : Option Addr} {xs : List Value} (h : RdS w B A xs) (hb : Below w.heap.size w w') : RdS w' B A xs := fun j x hx => by
  obtain ⟨g, cur, fz, hA, hB, hg, hc⟩ := h j x hx
  exact ⟨g, cur, fz, hA, hB, (hb.block g (Array.getElem?_eq_some_iff.1 hg).1).trans hg, hc⟩
theorem RdS.calm {w w' : World} {B C b : Nat} {A : Option Addr} {xs : List Value} (h : RdS w B A xs) (hb : Bo.Calm C b w w') (hB : b < B) : RdS w' B A xs := fun j x hx => by
  obtain ⟨g, cur, fz, hA, hB', hg, hc⟩ := h j x hx
  exact ⟨g, cur, fz, hA, hB', hb.kept _ _ _ _ hg (by decide) (by omega), hc⟩
theorem RdS.of {w : World} {B C : Nat} {A : Option Addr} {n c : Nat} {xs : List Value} (h : Owns w B 9 (.slice A n c) xs) (hC : C ≤ B) : RdS w C A xs := fun j x hx => by
  rcases h.2 with ⟨_, h0⟩ | ⟨g, cap, cur, hv, hB, hg, _⟩
  · rw [List.eq_nil_of_length_eq_zero h0] at hx; simp at hx
  · have hcell := World.ownsRow.cells h (g := g) (by rw [hv]; rfl) j x hx
    have hadd : (⟨g, 0, none⟩ : Addr).add j = ⟨g, j, none⟩ := by unfold Addr.add; split <;> simp_all
    rw [hadd] at hcell
    injection hv with e1 _ _
    exact ⟨g, cur, _, e1, Nat.le_trans hC hB, hg, (Lib.cell_of_heap hg j).symm.trans hcell⟩
theorem map_push1 (xs : List ByteArray) (s : ByteArray) : xs.map Value.string ++ [.string s] = (xs ++ [s]).map Value.string := by simp
end Go.Proofs.YtfaeigbfnjkojaaGreatDoor.Wi
