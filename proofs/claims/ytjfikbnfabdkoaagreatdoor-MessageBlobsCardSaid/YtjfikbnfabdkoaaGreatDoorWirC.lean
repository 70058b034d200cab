/- wire.In.Names: the walk. What was written reads back: plain laws. A text cut at its commas: plain laws; numbers and lists of names that were written read back. -/
import Derived.Test.YtjfikbnfabdkoaaGreatDoorWirB
import Derived.Lib.SplitLaws
set_option linter.unusedVariables false
set_option linter.unusedSimpArgs false
namespace Go.Proofs.YtjfikbnfabdkoaaGreatDoor.Wi
open Go.RowKit Go.Proofs.YtjfikbnfabdkoaaGreatDoor.Ow Go.Proofs.YtjfikbnfabdkoaaGreatDoor.Be
@[irreducible] def namL (r : ByteArray) : List ByteArray := Lib.splitB ⟨#[44]⟩ 0 (Lib.countB r ⟨#[44]⟩) r
theorem namL_length (r : ByteArray) : (namL r).length = Lib.countB r ⟨#[44]⟩ + 1 := by
  unfold namL; exact Lib.splitB_all _ (by decide) 0 _ r rfl
def okN (x : ByteArray) : Bool := nameB x.data.toList
def namK (s : ByteArray) (c : Nat) : Nat := if (txtR s c 4096).size = 0 then 0 else if (namL (txtR s c 4096)).all okN then 1 else 3
def namR (s : ByteArray) (c : Nat) : List ByteArray := if namK s c = 1 then namL (txtR s c 4096) else []
def namS (s : ByteArray) (c : Nat) : ByteArray := if namK s c = 3 then ⟨#[]⟩ else txtS s c 4096
def namC (s : ByteArray) (c : Nat) : Nat := if namK s c = 3 then 3 else txtC s c 4096
theorem all_take (l : List ByteArray) (k : Nat) (x : ByteArray) (hx : l[k]? = some x) (h : (l.take k).all okN = true) (ho : okN x = true) : (l.take (k + 1)).all okN = true := by
  rw [List.take_add_one, hx, List.all_append, h]; simp [ho]
theorem all_bad (l : List ByteArray) (k : Nat) (x : ByteArray) (hx : l[k]? = some x) (ho : okN x = false) : l.all okN = false := by
  rw [List.all_eq_false]
  exact ⟨x, List.mem_of_getElem? hx, by simp [ho]⟩
theorem splitB_size (sep : ByteArray) : ∀ (k : Nat) (s x : ByteArray), x ∈ Lib.splitB sep 0 k s → x.size ≤ s.size
  | 0, s, x, h => by rw [Lib.splitB_zero] at h; simp at h; rw [h]; exact Nat.le_refl _
  | k + 1, s, x, h => by
    rw [Lib.splitB] at h
    split at h
    · simp at h; rw [h]; exact Nat.le_refl _
    · rcases List.mem_cons.1 h with rfl | h
      · rw [ByteArray.size_extract]; omega
      · have := splitB_size sep k _ x h
        rw [ByteArray.size_extract] at this; omega
set_option maxRecDepth 20000 in
set_option maxHeartbeats 2000000 in
theorem InNames_fresh (w : World) (E : Nat → Value) (b : Nat) (s : ByteArray) (c : Nat) (hs : s.size ≤ 9223372036854775807) (hE : Errs w E) (hb : Gl b) (hM : ∃ m, w.cell? ⟨22, 0, none⟩ = some (.int .i64 m)) (hgm : 22 < b) (hts : s.size ≤ 1000000) (h : IsIn w b s (evV E c)) :
    Calls Tryz.prog 32 #[.pointer (some ⟨b, 0, none⟩)] w fun e w' => ∃ A, e = .returned (.slice A (namR s c).length (namR s c).length) ∧ RdS w' w.heap.size A ((namR s c).map Value.string) ∧ IsIn w' b (namS s c) (evV E (namC s c)) ∧ w.grownBy w' (some b) := by
  have H := Lib.hid h
  have HE := Lib.hid hE
  have HM := Lib.hid hM
  have hlt := h.lt
  obtain ⟨r, hr⟩ : ∃ r, txtR s c 4096 = r := ⟨_, rfl⟩
  obtain ⟨s1, hs1⟩ : ∃ s1, txtS s c 4096 = s1 := ⟨_, rfl⟩
  obtain ⟨c1, hc1⟩ : ∃ c1, txtC s c 4096 = c1 := ⟨_, rfl⟩
  have hsz := txtR_size s c 4096
  rw [hr] at hsz
  have HR := Lib.hid hr
  have HS1 := Lib.hid hs1
  have HC1 := Lib.hid hc1
  obtain ⟨a3, ha3⟩ := HE.out.is 3 (by decide)
  have HA3 := Lib.hid ha3
  clear h hE hM hr hs1 hc1 ha3
  by_cases hr0 : r.size = 0
  · have HK := Lib.hid (show namK s c = 0 by unfold namK; rw [HR.out, if_pos hr0])
    have hl := toList_empty hr0
    have hl2 : r.toList.isEmpty = true := by rw [hl]; rfl
    clear hr0
    go_enter Tryz.func32, Tryz.ntmps32
    go_wp2_with (go_at_call 31; refine (InText_any w E b s c 4096 hs HE.out hb H.out).mono ?_; rintro e w1 ⟨rfl, h1, hg1⟩; skip
                 rw [HS1.out, HC1.out] at h1
                 rw [HR.out]
                 have H1 := Lib.hid h1; have HG1 := Lib.hid hg1; clear h1 hg1)
    go_ret
    refine ⟨none, ?_⟩
    unfold namR namS namC
    rw [HK.out]
    exact ⟨rfl, fun j x hx => by simp at hx, by simpa [HS1.out, HC1.out] using H1.out, HG1.out⟩
  · have hl2 := toList_ne hr0
    have hc0 : c1 = 0 := by rw [← HC1.out]; exact txtR_pos (by rw [HR.out]; exact hr0)
    subst hc0
    obtain ⟨L, hL⟩ : ∃ L, namL r = L := ⟨_, rfl⟩
    have hLn : Lib.countB r ⟨#[44]⟩ + 1 = L.length := by rw [← hL, namL_length]
    have HLL := Lib.hid (show Lib.splitB ⟨#[44]⟩ 0 (Lib.countB r ⟨#[44]⟩) r = L by rw [← hL]; unfold namL; rfl)
    have HLN := Lib.hid hLn
    have HL := Lib.hid hL
    have HRS := Lib.hid (show r.size < 4294967281 by omega)
    have hLb : L.length ≤ 1000001 := by rw [← hLn]; have := Lib.countB_le ⟨#[44]⟩ (by decide) _ r (Nat.le_refl _); omega
    obtain ⟨n, hn⟩ : ∃ n, L.length = n := ⟨_, rfl⟩
    rw [hn] at hLb
    have HNN := Lib.hid hn
    have HSZ := Lib.hid (show ∀ x ∈ L, x.size ≤ 9223372036854775807 from fun x hx => by
      have h1 := splitB_size ⟨#[44]⟩ _ r x (by rw [HLL.out]; exact hx)
      omega)
    have HR0 := Lib.hid hr0
    clear hL hLn hn hr0 hsz
    go_enter Tryz.func32, Tryz.ntmps32
    go_wp2_with (first
      | (go_at_call 31; refine (InText_any w E b s c 4096 hs HE.out hb H.out).mono ?_; rintro e w1 ⟨rfl, h1, hg1⟩; skip
         rw [HS1.out, HC1.out] at h1
         rw [HR.out]
         obtain ⟨m, hm⟩ := HM.out
         have HMX := Lib.hid (hg1.cell hm (by intro e; simp at e; omega))
         have HE1 := Lib.hid (HE.out.keep hg1 hb)
         have H1 := Lib.hid h1; have HG1 := Lib.hid hg1; clear h1 hg1 hm)
      | (go_at_call 60; go_loud (refine (Tryz.strings_Split r ⟨#[44]⟩ m _ HRS.out HMX.out (by decide)).mono ?_); rintro e w2 ⟨rfl, hw2⟩; skip
         rw [HLL.out] at hw2
         rw [HLN.out, HNN.out]
         have HB2 := Lib.hid (show Below w1.heap.size w1 w2 by rw [hw2]; exact (Below.refl _ _).alloc (Nat.le_refl _) _)
         have HRD := Lib.hid (show RdS w2 w.heap.size (some ⟨w1.heap.size, 0, none⟩) (L.map Value.string) by
           rw [hw2]
           intro j x hx
           exact ⟨_, _, _, rfl, HG1.out.size, Rg.Blk.new w1 _ _, by simpa using hx⟩)
         have H2 := Lib.hid (show IsIn w2 b s1 (evV E 0) from H1.out.below HB2.out H1.out.lt)
         have HE2 := Lib.hid (HE1.out.below HB2.out)
         have HG2 := Lib.hid (grown_below HG1.out HB2.out)
         clear hw2))
    go_loopw [15] (fun i wr => ∃ k : Nat, k ≤ n ∧ i = .int .i64 k ∧ (L.take k).all okN = true ∧ wr = w2) (fun i _ => n - (intOf i).toNat)
    case atStart => exact ⟨0, Nat.zero_le _, rfl, by rw [List.take_zero]; rfl, rfl⟩
    case round =>
      obtain ⟨k, hk, rfl, hall, rfl⟩ := hrel
      have HAL := Lib.hid hall
      clear hall
      by_cases hkn : k < n
      · have hd : decide (k < n) = true := by simp; exact hkn
        have hik : (k : Int) < n := by omega
        have hx : L[k]? = some (L[k]'(by rw [HNN.out]; exact hkn)) := List.getElem?_eq_getElem _
        have hxs := HSZ.out _ (List.getElem_mem (l := L) (n := k) (by rw [HNN.out]; exact hkn))
        obtain ⟨_, o, hA, _, hcell⟩ := HRD.out.rd.at_ (j := k) (by rw [List.length_map, HNN.out]; exact hkn)
        rw [List.getElem_map] at hcell
        simp only [Option.some.injEq, Addr.mk.injEq, and_true] at hA
        obtain ⟨rfl, rfl⟩ := hA
        rw [Nat.zero_add] at hcell
        generalize L[k]'(by rw [HNN.out]; exact hkn) = x at *
        have HX := Lib.hid hx
        have HXS := Lib.hid hxs
        clear hx hxs
        cases hok : okN x
        · have HBad := Lib.hid (all_bad L k x HX.out hok)
          have HOK := Lib.hid (show nameB x.data.toList = false from hok)
          have hform := HE2.out.form
          rw [HA3.out] at hform
          clear hok
          go_wp2_with (first
            | (go_at_call 61; refine (Name_any _ x HXS.out).mono ?_; rintro e w3 ⟨rfl, rfl⟩; skip; rw [HOK.out])
            | (go_at_call 59; refine (fail_none _ b s1 _ _ H2.out).mono ?_; rintro e w4 ⟨rfl, h4, hg4⟩; skip
               have H4 := Lib.hid h4; have HG4 := Lib.hid hg4; clear h4 hg4))
          go_ret
          have HK := show namK s c = 3 by unfold namK; rw [HR.out, if_neg HR0.out, HL.out, HBad.out]; rfl
          refine ⟨none, ?_⟩
          unfold namR namS namC
          rw [HK]
          exact ⟨rfl, fun j x hx => by simp at hx, by simpa [evV, HA3.out] using H4.out, HG2.out.trans HG4.out⟩
        · have HT := Lib.hid (all_take L k x HX.out HAL.out hok)
          have HOK := Lib.hid (show nameB x.data.toList = true from hok)
          clear hok
          go_wp2_with (first
            | (go_at_call 61; refine (Name_any _ x HXS.out).mono ?_; rintro e w3 ⟨rfl, rfl⟩; skip; rw [HOK.out]))
          go_roundw
          case rel =>
            first
              | exact ⟨k + 1, by omega, by go_num, HT.out, trivial⟩
              | exact ⟨k + 1, by omega, by go_num, HT.out, rfl⟩
              | ((repeat apply Exists.intro); refine ⟨?_, rfl⟩; exact ⟨k + 1, by omega, by go_num, HT.out, rfl⟩)
          case measure => simp [intOf]; omega
      · obtain rfl : k = n := by omega
        have hd : decide (k < k) = false := by simp
        have HAll := Lib.hid (show L.all okN = true by have := HAL.out; rwa [List.take_of_length_le (by rw [HNN.out]; exact Nat.le_refl _)] at this)
        go_wp2_with fail
        go_ret
        have HK := show namK s c = 1 by unfold namK; rw [HR.out, if_neg HR0.out, HL.out, HAll.out]; rfl
        refine ⟨some ⟨w1.heap.size, 0, none⟩, ?_⟩
        unfold namR namS namC
        rw [HK, HR.out, HL.out]
        exact ⟨by simp [HNN.out], HRD.out, by simpa [HS1.out, HC1.out] using H2.out, HG2.out⟩
theorem InNames_any (w : World) (E : Nat → Value) (b : Nat) (s : ByteArray) (c : Nat) (hs : s.size ≤ 9223372036854775807) (hE : Errs w E) (hb : Gl b) (hM : ∃ m, w.cell? ⟨22, 0, none⟩ = some (.int .i64 m)) (hgm : 22 < b) (hts : s.size ≤ 1000000) (h : IsIn w b s (evV E c)) :
    Calls Tryz.prog 32 #[.pointer (some ⟨b, 0, none⟩)] w fun e w' => ∃ A, e = .returned (.slice A (namR s c).length (namR s c).length) ∧ Rd w' A ((namR s c).map Value.string) ∧ IsIn w' b (namS s c) (evV E (namC s c)) ∧ w.grownBy w' (some b) := by
  refine (InNames_fresh w E b s c hs hE hb hM hgm hts h).mono ?_
  rintro e w' ⟨A, h1, h2, h3⟩
  exact ⟨A, h1, h2.rd, h3⟩
end Go.Proofs.YtjfikbnfabdkoaaGreatDoor.Wi
namespace Go.Proofs.YtjfikbnfabdkoaaGreatDoor.Wi
open Go.RowKit Go.Proofs.YtjfikbnfabdkoaaGreatDoor.Ow Go.Proofs.YtjfikbnfabdkoaaGreatDoor.Be
theorem ext_list (a b : ByteArray) (h : a.data.toList = b.data.toList) : a = b := by apply ByteArray.ext; exact Array.toList_inj.1 h
theorem raw_back (s : ByteArray) (a b : List UInt8) (n : Nat) (hs : s.data.toList = a ++ b) (hn : a.length = n) : (rawR s 0 n).data.toList = a ∧ (rawS s 0 n).data.toList = b ∧ rawC s 0 n = 0 := by
  have hz : s.size = a.length + b.length := by rw [← len_list, hs, List.length_append]
  have hle : n ≤ s.size := by omega
  refine ⟨?_, ?_, ?_⟩
  · unfold rawR
    rw [if_pos ⟨rfl, hle⟩]
    have : (s.extract 0 n).data.toList = s.data.toList.take n := by simp only [ByteArray.data_extract, Array.toList_extract, List.extract_eq_take_drop, List.drop_zero, Nat.sub_zero]
    rw [this, hs, ← hn, List.take_left]
  · unfold rawS
    rw [if_pos rfl, if_pos hle]
    have : (s.extract n s.size).data.toList = s.data.toList.drop n := by
      simp only [ByteArray.data_extract, Array.toList_extract, List.extract_eq_take_drop]
      rw [List.take_of_length_le (by rw [List.length_drop, len_list]; omega)]
    rw [this, hs, ← hn, List.drop_left]
  · unfold rawC
    rw [if_pos rfl, if_pos hle]
theorem numV_be : ∀ (k N : Nat), numV (be k N) = N % 256 ^ k
  | 0, N => by simp [numV, be, Nat.mod_one]
  | k + 1, N => by
    have h : ∀ (l : List UInt8) (a : Nat), l.foldl (fun a (x : UInt8) => a * 256 + x.toNat) a = a * 256 ^ l.length + numV l := by
      intro l
      induction l with
      | nil => intro a; simp [numV]
      | cons y l ih =>
        intro a
        have h0 := ih (0 * 256 + y.toNat)
        have h1 := ih (a * 256 + y.toNat)
        unfold numV at *
        rw [List.foldl_cons, List.foldl_cons, h1, h0, List.length_cons, Nat.pow_succ]
        simp only [Nat.add_mul, Nat.mul_assoc, Nat.zero_mul, Nat.zero_add, Nat.mul_comm 256]
        omega
    have ih := numV_be k N
    show List.foldl _ 0 (UInt8.ofNat (N / 256 ^ k) :: be k N) = _
    rw [List.foldl_cons, h, be_length, ih, UInt8.toNat_ofNat']
    have e : N % (256 ^ k * 256) = N % 256 ^ k + 256 ^ k * (N / 256 ^ k % 256) := Nat.mod_mul
    rw [show (256 : Nat) ^ (k + 1) = 256 ^ k * 256 from rfl, e, Nat.mul_comm (256 ^ k), Nat.zero_mul, Nat.zero_add]
    exact Nat.add_comm _ _
theorem txt_back (s : ByteArray) (a b : List UInt8) (most : Int) (hs : s.data.toList = textL a ++ b) (ha : a.length < 4294967296) (hm : (a.length : Int) ≤ most) :
    (txtR s 0 most).data.toList = a ∧ (txtS s 0 most).data.toList = b ∧ txtC s 0 most = 0 := by
  unfold textL at hs
  rw [List.append_assoc] at hs
  obtain ⟨h1, h2, h3⟩ := raw_back s (be 4 a.length) (a ++ b) 4 hs (be_length _ _)
  have hn : txtN s 0 = a.length := by
    unfold txtN; rw [h1, numV_be]; exact Nat.mod_eq_of_lt ha
  have hb : txtBig s 0 most = false := by
    unfold txtBig; rw [hn]; simp; intro _; omega
  obtain ⟨g1, g2, g3⟩ := raw_back (rawS s 0 4) a b a.length h2 rfl
  unfold txtR txtS txtC
  rw [hb, h3, hn]
  exact ⟨g1, g2, g3⟩
end Go.Proofs.YtjfikbnfabdkoaaGreatDoor.Wi
namespace Go.Proofs.YtjfikbnfabdkoaaGreatDoor.Wi
open Go.RowKit Go.Proofs.YtjfikbnfabdkoaaGreatDoor.Ow Go.Proofs.YtjfikbnfabdkoaaGreatDoor.Be
/-- cut at the commas -/
def spl : List UInt8 → List (List UInt8)
  | [] => [[]]
  | b :: l => if b = 44 then [] :: spl l else match spl l with
    | [] => [[b]]
    | h :: t => (b :: h) :: t
theorem spl_comma (l : List UInt8) : spl (44 :: l) = [] :: spl l := by rw [spl]; simp
theorem spl_other {b : UInt8} (hb : b ≠ 44) {l h : List UInt8} {t : List (List UInt8)} (hl : spl l = h :: t) : spl (b :: l) = (b :: h) :: t := by
  rw [spl]; simp [hb, hl]
theorem spl_ne (l : List UInt8) : ∃ h t, spl l = h :: t := by
  cases l with
  | nil => exact ⟨_, _, rfl⟩
  | cons b l =>
    by_cases hb : b = 44
    · subst hb; exact ⟨_, _, spl_comma l⟩
    · cases hs : spl l with
      | nil => exact ⟨[b], [], by rw [spl]; simp [hb, hs]⟩
      | cons h t => exact ⟨_, _, spl_other hb hs⟩
theorem splitK_none (k : Nat) (l : List UInt8) (h : Lib.index l [44] = -1) : Lib.splitK [44] 0 k l = [l] := by
  cases k with
  | zero => rfl
  | succ k => rw [Lib.splitK, if_pos (beq_iff_eq.2 h)]
theorem index_comma (l : List UInt8) : Lib.index (44 :: l) [44] = 0 := by rw [Lib.index]; simp [List.isPrefixOf]
theorem index_other {b : UInt8} (hb : b ≠ 44) (l : List UInt8) : Lib.index (b :: l) [44] = if Lib.index l [44] = -1 then -1 else Lib.index l [44] + 1 := by
  rw [Lib.index]
  simp [List.isPrefixOf, Ne.symm hb]
theorem splitK_comma (k : Nat) (l : List UInt8) : Lib.splitK [44] 0 (k + 1) (44 :: l) = [] :: Lib.splitK [44] 0 k l := by
  rw [Lib.splitK, index_comma]
  simp
theorem splitK_other {b : UInt8} (hb : b ≠ 44) (l : List UInt8) : ∀ k h t, Lib.splitK [44] 0 k l = h :: t → Lib.splitK [44] 0 k (b :: l) = (b :: h) :: t
  | 0, h, t, e => by
    simp only [Lib.splitK, List.cons.injEq] at e
    obtain ⟨rfl, rfl⟩ := e
    rfl
  | k + 1, h, t, e => by
    by_cases hi : Lib.index l [44] = -1
    · rw [splitK_none _ _ hi] at e
      rw [splitK_none _ _ (by rw [index_other hb, if_pos hi])]
      simp only [List.cons.injEq] at e
      obtain ⟨rfl, rfl⟩ := e
      rfl
    · have hge := Lib.index_ge l [44]
      rw [Lib.splitK, if_neg (by simpa using hi)] at e
      rw [Lib.splitK, index_other hb, if_neg hi, if_neg (by simp; omega)]
      have e1 : (Lib.index l [44] + 1).toNat = (Lib.index l [44]).toNat + 1 := by omega
      rw [e1]
      simp only [List.cons.injEq] at e ⊢
      refine ⟨?_, ?_⟩
      · rw [← e.1]; rfl
      · rw [← e.2, Nat.add_right_comm]; rfl
theorem split_spl : ∀ l : List UInt8, Lib.splitK [44] 0 (Lib.count l [44]) l = spl l
  | [] => splitK_none _ _ rfl
  | b :: l => by
    have ih := split_spl l
    by_cases hb : b = 44
    · subst hb
      rw [Lib.count_cons_eq, Nat.add_comm, splitK_comma, ih, spl_comma]
    · rw [Lib.count_cons_ne b 44 l hb]
      obtain ⟨h, t, hs⟩ := spl_ne l
      rw [spl_other hb hs]
      exact splitK_other hb l _ h t (ih.trans hs)
theorem namL_spl (r : ByteArray) : (namL r).map (·.data.toList) = spl r.data.toList := by
  unfold namL
  rw [Lib.splitB_data]
  show Lib.splitK [44] 0 (Lib.countB r ⟨#[44]⟩) r.data.toList = _
  rw [← split_spl]
theorem spl_prefix : ∀ (x l h : List UInt8) (t : List (List UInt8)), (∀ b ∈ x, b ≠ 44) → spl l = h :: t → spl (x ++ l) = (x ++ h) :: t
  | [], l, h, t, _, e => e
  | b :: x, l, h, t, hx, e => by
    have := spl_prefix x l h t (fun b hb => hx b (List.mem_cons_of_mem _ hb)) e
    exact spl_other (hx b (List.mem_cons_self ..)) this
theorem spl_plain (x : List UInt8) (hx : ∀ b ∈ x, b ≠ 44) : spl x = [x] := by
  have := spl_prefix x [] [] [] hx rfl
  simpa using this
theorem spl_join : ∀ (x : List UInt8) (r : List (List UInt8)), (∀ y ∈ x :: r, ∀ b ∈ y, b ≠ 44) → spl (Lib.join (x :: r) [44]) = x :: r
  | x, [], h => by rw [Lib.join_one]; exact spl_plain x (h x (List.mem_cons_self ..))
  | x, y :: r, h => by
    have ih := spl_join y r (fun z hz => h z (List.mem_cons_of_mem _ hz))
    have e : Lib.join (x :: y :: r) [44] = x ++ (44 :: Lib.join (y :: r) [44]) := by
      rw [Lib.join_cons, Lib.join_cons]; simp [Lib.joinTail]
    rw [e]
    have := spl_prefix x _ _ _ (h x (List.mem_cons_self ..)) (spl_comma (Lib.join (y :: r) [44]))
    rw [this, ih, List.append_nil]
theorem map_inj_data {a b : List ByteArray} (h : a.map (·.data.toList) = b.map (·.data.toList)) : a = b := by
  induction a generalizing b with
  | nil => cases b with
    | nil => rfl
    | cons y b => simp at h
  | cons x a ih => cases b with
    | nil => simp at h
    | cons y b =>
      simp only [List.map_cons, List.cons.injEq] at h
      rw [ext_list x y h.1, ih h.2]
theorem okN_comma {x : ByteArray} (h : okN x = true) : (∀ b ∈ x.data.toList, b ≠ 44) ∧ x.data.toList ≠ [] := by
  unfold okN nameB at h
  simp only [Bool.and_eq_true, decide_eq_true_eq] at h
  refine ⟨fun b hb e => ?_, fun e => ?_⟩
  · have := List.all_eq_true.1 h.1.1 b hb
    subst e
    exact absurd this (by decide)
  · rw [e] at h; exact absurd h.1.2 (Nat.lt_irrefl 0)
theorem namL_join (ys : List ByteArray) (r : ByteArray) (h0 : ys ≠ []) (hok : ys.all okN = true) (hr : r.data.toList = joinC ys) : namL r = ys := by
  apply map_inj_data
  rw [namL_spl, hr]
  unfold joinC
  cases ys with
  | nil => exact absurd rfl h0
  | cons y ys =>
    rw [List.map_cons]
    refine spl_join _ _ fun z hz b hb => ?_
    obtain ⟨x, hx, rfl⟩ := List.mem_map.1 (show z ∈ (y :: ys).map (·.data.toList) from hz)
    exact (okN_comma (List.all_eq_true.1 hok x hx)).1 b hb
theorem joinC_pos (ys : List ByteArray) (h0 : ys ≠ []) (hok : ys.all okN = true) : 0 < (joinC ys).length := by
  unfold joinC
  cases ys with
  | nil => exact absurd rfl h0
  | cons y ys =>
    rw [List.map_cons, Lib.join_cons, List.length_append]
    have := (okN_comma (List.all_eq_true.1 hok y (List.mem_cons_self ..))).2
    have := List.length_pos_iff.2 this
    omega
theorem names_back (s : ByteArray) (ys : List ByteArray) (b : List UInt8) (hs : s.data.toList = textL (joinC ys) ++ b) (hm : (joinC ys).length ≤ 4096) (hok : ys.all okN = true) :
    namR s 0 = ys ∧ (namS s 0).data.toList = b ∧ namC s 0 = 0 := by
  obtain ⟨h1, h2, h3⟩ := txt_back s (joinC ys) b 4096 hs (by omega) (by omega)
  by_cases h0 : ys = []
  · subst h0
    have hk : namK s 0 = 0 := by unfold namK; rw [if_pos (by rw [← len_list, h1]; rfl)]
    unfold namR namS namC
    rw [hk]
    exact ⟨rfl, h2, h3⟩
  · have hp := joinC_pos ys h0 hok
    have hk : namK s 0 = 1 := by
      unfold namK
      rw [if_neg (by rw [← len_list, h1]; omega), namL_join ys _ h0 hok h1, if_pos hok]
    unfold namR namS namC
    rw [hk]
    exact ⟨namL_join ys _ h0 hok h1, h2, h3⟩
theorem strip_head (l : List UInt8) : ∀ x t, strip l = x :: t → x ≠ 0 := by
  intro x t h e
  subst e
  have := List.head?_dropWhile_not (· == (0 : UInt8)) l
  unfold strip at h
  rw [h] at this
  simp at this
theorem big_back (s : ByteArray) (a b : List UInt8) (hs : s.data.toList = textL (bigL a) ++ b) (ha : a.length ≤ 40) :
    (bigR s 0 40).data.toList = strip a ∧ (bigS s 0 40).data.toList = b ∧ bigC s 0 40 = 0 := by
  have hl := bigL_length a
  have hsl := strip_length a
  have hq : bq 40 = 41 := rfl
  have hm : bmost 40 = 40 := rfl
  obtain ⟨h1, h2, h3⟩ := txt_back s (bigL a) b 41 hs (by omega) (by omega)
  have main : bigK s 0 40 = 0 ∧ strip a = [] ∨ bigK s 0 40 = 1 ∧ (tp (txtR s 0 41)).data.toList = strip a := by
    cases hst : strip a with
    | nil =>
      left
      refine ⟨?_, rfl⟩
      unfold bigK
      rw [hq, if_pos (by rw [← len_list, h1]; unfold bigL; rw [hst]; rfl)]
    | cons x t =>
      right
      have hx := strip_head a x t hst
      have htl : (x :: t).length ≤ 40 := by rw [← hst]; omega
      by_cases hx8 : 128 ≤ x.toNat
      · have hb : bigL a = 0 :: x :: t := by unfold bigL; rw [hst]; exact if_pos hx8
        rw [hb] at h1
        have htp : (tp (txtR s 0 41)).data.toList = x :: t := by
          unfold tp
          show Lib.trimPrefix (txtR s 0 41).data.toList [0] = _
          rw [h1]; rfl
        refine ⟨?_, htp⟩
        unfold bigK
        rw [hq, hm, if_neg (by rw [← len_list, h1]; simp), h1, htp, if_neg, if_neg]
        · rw [← len_list, htp]; omega
        · unfold badB; simp; omega
      · have hb : bigL a = x :: t := by unfold bigL; rw [hst]; exact if_neg hx8
        rw [hb] at h1
        have htp : (tp (txtR s 0 41)).data.toList = x :: t := by
          unfold tp
          show Lib.trimPrefix (txtR s 0 41).data.toList [0] = _
          rw [h1]
          unfold Lib.trimPrefix Lib.hasPrefix
          simp [Ne.symm hx]
        refine ⟨?_, htp⟩
        unfold bigK
        rw [hq, hm, if_neg (by rw [← len_list, h1]; simp), h1, htp, if_neg, if_neg]
        · rw [← len_list, htp]; omega
        · unfold badB; simp; omega
  unfold bigR bigS bigC
  rcases main with ⟨hk, h0⟩ | ⟨hk, ht⟩
  · rw [hk, hq, h0]
    exact ⟨rfl, h2, h3⟩
  · rw [hk, hq]
    exact ⟨ht, h2, h3⟩
end Go.Proofs.YtjfikbnfabdkoaaGreatDoor.Wi
