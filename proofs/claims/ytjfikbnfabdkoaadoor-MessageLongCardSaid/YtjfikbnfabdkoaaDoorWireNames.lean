/- wire.In.Names: the walk. -/
import Derived.Test.YtjfikbnfabdkoaaDoorGen
import Derived.Lib.SplitLaws
set_option linter.unusedVariables false
set_option linter.unusedSimpArgs false
namespace Go.Proofs.YtjfikbnfabdkoaaDoor.Wi
open Go.RowKit Go.Proofs.YtjfikbnfabdkoaaDoor.Ow Go.Proofs.YtjfikbnfabdkoaaDoor.Be
@[irreducible] def namL (r : ByteArray) : List ByteArray := Lib.splitB ⟨#[44]⟩ 0 (Lib.countB r ⟨#[44]⟩) r
theorem namL_length (r : ByteArray) : (namL r).length = Lib.countB r ⟨#[44]⟩ + 1 := by
  unfold namL; exact Lib.splitB_all _ (by decide) 0 _ r rfl
def okN (x : ByteArray) : Bool := nameB x.data.toList
def namK (s : ByteArray) (c : Nat) : Nat := if (txtR s c 4096).size = 0 then 0 else if (namL (txtR s c 4096)).all okN then 1 else 3
def namR (s : ByteArray) (c : Nat) : List ByteArray := if namK s c = 1 then namL (txtR s c 4096) else []
def namS (s : ByteArray) (c : Nat) : ByteArray := if namK s c = 3 then ⟨#[]⟩ else txtS s c 4096
def namC (s : ByteArray) (c : Nat) : Nat := if namK s c = 3 then 3 else txtC s c 4096
theorem all_take (l : List ByteArray) (k : Nat) (x : ByteArray) (hx : l[k]? = some x) (h : (l.take k).all okN = true) (ho : okN x = true) : (l.take (k + 1)).all okN = true := by
  rw [List.take_add_one, hx, List.all_append, h]; simp [ho]
theorem all_bad (l : List ByteArray) (k : Nat) (x : ByteArray) (hx : l[k]? = some x) (ho : okN x = false) : l.all okN = false := by
  rw [List.all_eq_false]
  exact ⟨x, List.mem_of_getElem? hx, by simp [ho]⟩
theorem splitB_size (sep : ByteArray) : ∀ (k : Nat) (s x : ByteArray), x ∈ Lib.splitB sep 0 k s → x.size ≤ s.size
  | 0, s, x, h => by rw [Lib.splitB_zero] at h; simp at h; rw [h]; exact Nat.le_refl _
  | k + 1, s, x, h => by
    rw [Lib.splitB] at h
    split at h
    · simp at h; rw [h]; exact Nat.le_refl _
    · rcases List.mem_cons.1 h with rfl | h
      · rw [ByteArray.size_extract]; omega
      · have := splitB_size sep k _ x h
        rw [ByteArray.size_extract] at this; omega
set_option maxRecDepth 20000 in
set_option maxHeartbeats 2000000 in
theorem InNames_fresh (w : World) (E : Nat → Value) (b : Nat) (s : ByteArray) (c : Nat) (hs : s.size ≤ 9223372036854775807) (hE : Errs w E) (hb : Gl b) (hM : ∃ m, w.cell? ⟨22, 0, none⟩ = some (.int .i64 m)) (hgm : 22 < b) (hts : s.size ≤ 1000000) (h : IsIn w b s (evV E c)) :
    Calls Tryd.prog 68 #[.pointer (some ⟨b, 0, none⟩)] w fun e w' => ∃ A, e = .returned (.slice A (namR s c).length (namR s c).length) ∧ RdS w' w.heap.size A ((namR s c).map Value.string) ∧ IsIn w' b (namS s c) (evV E (namC s c)) ∧ w.grownBy w' (some b) := by
  have H := Lib.hid h
  have HE := Lib.hid hE
  have HM := Lib.hid hM
  have hlt := h.lt
  obtain ⟨r, hr⟩ : ∃ r, txtR s c 4096 = r := ⟨_, rfl⟩
  obtain ⟨s1, hs1⟩ : ∃ s1, txtS s c 4096 = s1 := ⟨_, rfl⟩
  obtain ⟨c1, hc1⟩ : ∃ c1, txtC s c 4096 = c1 := ⟨_, rfl⟩
  have hsz := txtR_size s c 4096
  rw [hr] at hsz
  have HR := Lib.hid hr
  have HS1 := Lib.hid hs1
  have HC1 := Lib.hid hc1
  obtain ⟨a3, ha3⟩ := HE.out.is 3 (by decide)
  have HA3 := Lib.hid ha3
  clear h hE hM hr hs1 hc1 ha3
  by_cases hr0 : r.size = 0
  · have HK := Lib.hid (show namK s c = 0 by unfold namK; rw [HR.out, if_pos hr0])
    have hl := toList_empty hr0
    have hl2 : r.toList.isEmpty = true := by rw [hl]; rfl
    clear hr0
    go_enter Tryd.func68, Tryd.ntmps68
    go_wp2_with (go_at_call 67; refine (InText_any w E b s c 4096 hs HE.out hb H.out).mono ?_; rintro e w1 ⟨rfl, h1, hg1⟩; skip
                 rw [HS1.out, HC1.out] at h1
                 rw [HR.out]
                 have H1 := Lib.hid h1; have HG1 := Lib.hid hg1; clear h1 hg1)
    go_ret
    refine ⟨none, ?_⟩
    unfold namR namS namC
    rw [HK.out]
    exact ⟨rfl, fun j x hx => by simp at hx, by simpa [HS1.out, HC1.out] using H1.out, HG1.out⟩
  · have hl2 := toList_ne hr0
    have hc0 : c1 = 0 := by rw [← HC1.out]; exact txtR_pos (by rw [HR.out]; exact hr0)
    subst hc0
    obtain ⟨L, hL⟩ : ∃ L, namL r = L := ⟨_, rfl⟩
    have hLn : Lib.countB r ⟨#[44]⟩ + 1 = L.length := by rw [← hL, namL_length]
    have HLL := Lib.hid (show Lib.splitB ⟨#[44]⟩ 0 (Lib.countB r ⟨#[44]⟩) r = L by rw [← hL]; unfold namL; rfl)
    have HLN := Lib.hid hLn
    have HL := Lib.hid hL
    have HRS := Lib.hid (show r.size < 4294967281 by omega)
    have hLb : L.length ≤ 1000001 := by rw [← hLn]; have := Lib.countB_le ⟨#[44]⟩ (by decide) _ r (Nat.le_refl _); omega
    obtain ⟨n, hn⟩ : ∃ n, L.length = n := ⟨_, rfl⟩
    rw [hn] at hLb
    have HNN := Lib.hid hn
    have HSZ := Lib.hid (show ∀ x ∈ L, x.size ≤ 9223372036854775807 from fun x hx => by
      have h1 := splitB_size ⟨#[44]⟩ _ r x (by rw [HLL.out]; exact hx)
      omega)
    have HR0 := Lib.hid hr0
    clear hL hLn hn hr0 hsz
    go_enter Tryd.func68, Tryd.ntmps68
    go_wp2_with (first
      | (go_at_call 67; refine (InText_any w E b s c 4096 hs HE.out hb H.out).mono ?_; rintro e w1 ⟨rfl, h1, hg1⟩; skip
         rw [HS1.out, HC1.out] at h1
         rw [HR.out]
         obtain ⟨m, hm⟩ := HM.out
         have HMX := Lib.hid (hg1.cell hm (by intro e; simp at e; omega))
         have HE1 := Lib.hid (HE.out.keep hg1 hb)
         have H1 := Lib.hid h1; have HG1 := Lib.hid hg1; clear h1 hg1 hm)
      | (go_at_call 94; go_loud (refine (Tryd.strings_Split r ⟨#[44]⟩ m _ HRS.out HMX.out (by decide)).mono ?_); rintro e w2 ⟨rfl, hw2⟩; skip
         rw [HLL.out] at hw2
         rw [HLN.out, HNN.out]
         have HB2 := Lib.hid (show Below w1.heap.size w1 w2 by rw [hw2]; exact (Below.refl _ _).alloc (Nat.le_refl _) _)
         have HRD := Lib.hid (show RdS w2 w.heap.size (some ⟨w1.heap.size, 0, none⟩) (L.map Value.string) by
           rw [hw2]
           intro j x hx
           exact ⟨_, _, _, rfl, HG1.out.size, Rg.Blk.new w1 _ _, by simpa using hx⟩)
         have H2 := Lib.hid (show IsIn w2 b s1 (evV E 0) from H1.out.below HB2.out H1.out.lt)
         have HE2 := Lib.hid (HE1.out.below HB2.out)
         have HG2 := Lib.hid (grown_below HG1.out HB2.out)
         clear hw2))
    go_loopw [15] (fun i wr => ∃ k : Nat, k ≤ n ∧ i = .int .i64 k ∧ (L.take k).all okN = true ∧ wr = w2) (fun i _ => n - (intOf i).toNat)
    case atStart => exact ⟨0, Nat.zero_le _, rfl, by rw [List.take_zero]; rfl, rfl⟩
    case round =>
      obtain ⟨k, hk, rfl, hall, rfl⟩ := hrel
      have HAL := Lib.hid hall
      clear hall
      by_cases hkn : k < n
      · have hd : decide (k < n) = true := by simp; exact hkn
        have hik : (k : Int) < n := by omega
        have hx : L[k]? = some (L[k]'(by rw [HNN.out]; exact hkn)) := List.getElem?_eq_getElem _
        have hxs := HSZ.out _ (List.getElem_mem (l := L) (n := k) (by rw [HNN.out]; exact hkn))
        obtain ⟨_, o, hA, _, hcell⟩ := HRD.out.rd.at_ (j := k) (by rw [List.length_map, HNN.out]; exact hkn)
        rw [List.getElem_map] at hcell
        simp only [Option.some.injEq, Addr.mk.injEq, and_true] at hA
        obtain ⟨rfl, rfl⟩ := hA
        rw [Nat.zero_add] at hcell
        generalize L[k]'(by rw [HNN.out]; exact hkn) = x at *
        have HX := Lib.hid hx
        have HXS := Lib.hid hxs
        clear hx hxs
        cases hok : okN x
        · have HBad := Lib.hid (all_bad L k x HX.out hok)
          have HOK := Lib.hid (show nameB x.data.toList = false from hok)
          have hform := HE2.out.form
          rw [HA3.out] at hform
          clear hok
          go_wp2_with (first
            | (go_at_call 86; refine (Name_any _ x HXS.out).mono ?_; rintro e w3 ⟨rfl, rfl⟩; skip; rw [HOK.out])
            | (go_at_call 93; refine (fail_none _ b s1 _ _ H2.out).mono ?_; rintro e w4 ⟨rfl, h4, hg4⟩; skip
               have H4 := Lib.hid h4; have HG4 := Lib.hid hg4; clear h4 hg4))
          go_ret
          have HK := show namK s c = 3 by unfold namK; rw [HR.out, if_neg HR0.out, HL.out, HBad.out]; rfl
          refine ⟨none, ?_⟩
          unfold namR namS namC
          rw [HK]
          exact ⟨rfl, fun j x hx => by simp at hx, by simpa [evV, HA3.out] using H4.out, HG2.out.trans HG4.out⟩
        · have HT := Lib.hid (all_take L k x HX.out HAL.out hok)
          have HOK := Lib.hid (show nameB x.data.toList = true from hok)
          clear hok
          go_wp2_with (first
            | (go_at_call 86; refine (Name_any _ x HXS.out).mono ?_; rintro e w3 ⟨rfl, rfl⟩; skip; rw [HOK.out]))
          go_roundw
          case rel =>
            first
              | exact ⟨k + 1, by omega, by go_num, HT.out, trivial⟩
              | exact ⟨k + 1, by omega, by go_num, HT.out, rfl⟩
              | ((repeat apply Exists.intro); refine ⟨?_, rfl⟩; exact ⟨k + 1, by omega, by go_num, HT.out, rfl⟩)
          case measure => simp [intOf]; omega
      · obtain rfl : k = n := by omega
        have hd : decide (k < k) = false := by simp
        have HAll := Lib.hid (show L.all okN = true by have := HAL.out; rwa [List.take_of_length_le (by rw [HNN.out]; exact Nat.le_refl _)] at this)
        go_wp2_with fail
        go_ret
        have HK := show namK s c = 1 by unfold namK; rw [HR.out, if_neg HR0.out, HL.out, HAll.out]; rfl
        refine ⟨some ⟨w1.heap.size, 0, none⟩, ?_⟩
        unfold namR namS namC
        rw [HK, HR.out, HL.out]
        exact ⟨by simp [HNN.out], HRD.out, by simpa [HS1.out, HC1.out] using H2.out, HG2.out⟩
theorem InNames_any (w : World) (E : Nat → Value) (b : Nat) (s : ByteArray) (c : Nat) (hs : s.size ≤ 9223372036854775807) (hE : Errs w E) (hb : Gl b) (hM : ∃ m, w.cell? ⟨22, 0, none⟩ = some (.int .i64 m)) (hgm : 22 < b) (hts : s.size ≤ 1000000) (h : IsIn w b s (evV E c)) :
    Calls Tryd.prog 68 #[.pointer (some ⟨b, 0, none⟩)] w fun e w' => ∃ A, e = .returned (.slice A (namR s c).length (namR s c).length) ∧ Rd w' A ((namR s c).map Value.string) ∧ IsIn w' b (namS s c) (evV E (namC s c)) ∧ w.grownBy w' (some b) := by
  refine (InNames_fresh w E b s c hs hE hb hM hgm hts h).mono ?_
  rintro e w' ⟨A, h1, h2, h3⟩
  exact ⟨A, h1, h2.rd, h3⟩
end Go.Proofs.YtjfikbnfabdkoaaDoor.Wi
