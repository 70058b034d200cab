/- The reference's reading: lists of names. -/
import Derived.Test.YtjfikbnfabdkoaaDoorRefIn
import Derived.Test.YtjfikbnfabdkoaaDoorWirC
import Derived.Test.YtjfikbnfabdkoaaDoorWirB
set_option linter.unusedVariables false
set_option linter.unusedSimpArgs false
namespace Go.Proofs.YtjfikbnfabdkoaaDoor.Wi
open Go.RowKit Go.Proofs.YtjfikbnfabdkoaaDoor.Ow Go.Proofs.YtjfikbnfabdkoaaDoor.Be
def ReadL (w : World) (s : ByteArray) (c : Nat) (ys : List ByteArray) (e : Ending) (w' : World) : Prop := ∃ (A : Option Addr) (cp : Nat), e = .returned (.tuple #[inV s c, .slice A ys.length cp]) ∧ (ys.length ≤ cp ∧ cp ≤ maxLen) ∧ RdS w' w.heap.size A (ys.map Value.string) ∧ Below w.heap.size w w'
/-- while the text r is cut: out has been cut off, wd is the piece at hand -/
def Cut (r : ByteArray) (k : Nat) (out : List ByteArray) (wd : ByteArray) : Prop :=
  out.all okN = true ∧ out.length ≤ k ∧ wd.size ≤ k ∧ ((k ≤ r.size ∧ ∀ h t, spl (r.data.toList.drop k) = h :: t → spl r.data.toList = out.map (·.data.toList) ++ (wd.data.toList ++ h) :: t) ∨ (k = r.size + 1 ∧ spl r.data.toList = out.map (·.data.toList)))
theorem Cut.start (r : ByteArray) : Cut r 0 [] ⟨#[]⟩ := ⟨rfl, Nat.le_refl _, Nat.le_refl _, .inl ⟨Nat.zero_le _, fun h t e => by simpa using e⟩⟩
theorem extract_one (r : ByteArray) (k : Nat) (hk : k < r.size) : (r.extract k (k + 1)).data.toList = [r[k]] := by
  have h1 : (r.extract k (k + 1)).data.toList = (r.data.toList.drop k).take 1 := by
    simp only [ByteArray.data_extract, Array.toList_extract, List.extract_eq_take_drop]
    congr 1; omega
  rw [h1, List.drop_eq_getElem_cons (by rw [len_list]; exact hk)]
  simp; rfl
theorem drop_at (r : ByteArray) (k : Nat) (hk : k < r.size) : r.data.toList.drop k = r[k] :: r.data.toList.drop (k + 1) := by
  rw [List.drop_eq_getElem_cons (by rw [len_list]; exact hk)]; rfl
theorem Cut.other {r : ByteArray} {k : Nat} {out : List ByteArray} {wd : ByteArray} (h : Cut r k out wd) (hk : k < r.size) (hx : r[k] ≠ 44) : Cut r (k + 1) out (wd ++ r.extract k (k + 1)) := by
  obtain ⟨h1, h2, h3, ⟨h4, h5⟩ | ⟨h4, _⟩⟩ := h
  · refine ⟨h1, by omega, ?_, .inl ⟨by omega, fun h t e => ?_⟩⟩
    · rw [ByteArray.size_append, ByteArray.size_extract]; omega
    · have := h5 (r[k] :: h) t (by rw [drop_at r k hk]; exact spl_other hx e)
      rw [this]
      have e2 : (wd ++ r.extract k (k + 1)).data.toList = wd.data.toList ++ [r[k]] := by rw [show (wd ++ r.extract k (k + 1)).data.toList = wd.data.toList ++ (r.extract k (k + 1)).data.toList by simp, extract_one r k hk]
      rw [e2, List.append_assoc]; rfl
  · omega
theorem Cut.comma {r : ByteArray} {k : Nat} {out : List ByteArray} {wd : ByteArray} (h : Cut r k out wd) (hk : k < r.size) (hx : r[k] = 44) (hok : okN wd = true) : Cut r (k + 1) (out ++ [wd]) ⟨#[]⟩ := by
  obtain ⟨h1, h2, h3, ⟨h4, h5⟩ | ⟨h4, _⟩⟩ := h
  · refine ⟨by rw [List.all_append, h1]; simp [hok], by rw [List.length_append]; simp; omega, Nat.zero_le _, .inl ⟨by omega, fun h t e => ?_⟩⟩
    have := h5 [] (h :: t) (by rw [drop_at r k hk, hx, spl_comma, e])
    rw [this]; simp
  · omega
theorem Cut.last {r : ByteArray} {out : List ByteArray} {wd : ByteArray} (h : Cut r r.size out wd) (hok : okN wd = true) : Cut r (r.size + 1) (out ++ [wd]) ⟨#[]⟩ := by
  obtain ⟨h1, h2, h3, ⟨h4, h5⟩ | ⟨h4, _⟩⟩ := h
  · refine ⟨by rw [List.all_append, h1]; simp [hok], by rw [List.length_append]; simp; omega, Nat.zero_le _, .inr ⟨rfl, ?_⟩⟩
    have := h5 [] [] (by rw [List.drop_of_length_le (by rw [len_list]; exact Nat.le_refl _)]; rfl)
    rw [this]; simp
  · omega
theorem Cut.bad {r : ByteArray} {k : Nat} {out : List ByteArray} {wd : ByteArray} (h : Cut r k out wd) (hk : k = r.size ∨ ∃ h : k < r.size, r[k] = 44) (hok : okN wd = false) : (namL r).all okN = false := by
  have hm : wd.data.toList ∈ spl r.data.toList := by
    obtain ⟨h1, h2, h3, ⟨h4, h5⟩ | ⟨h4, _⟩⟩ := h
    · rcases hk with rfl | ⟨hlt, hx⟩
      · have := h5 [] [] (by rw [List.drop_of_length_le (by rw [len_list]; exact Nat.le_refl _)]; rfl)
        rw [this]; simp
      · obtain ⟨h', t', e⟩ := spl_ne (r.data.toList.drop (k + 1))
        have := h5 [] (h' :: t') (by rw [drop_at r k hlt, hx, spl_comma, e])
        rw [this]; simp
    · rcases hk with rfl | ⟨hlt, _⟩ <;> omega
  rw [← namL_spl] at hm
  obtain ⟨y, hy, he⟩ := List.mem_map.1 hm
  rw [ext_list _ _ he] at hy
  rw [List.all_eq_false]
  exact ⟨wd, hy, by simp [hok]⟩
theorem Cut.full {r : ByteArray} {out : List ByteArray} {wd : ByteArray} (h : Cut r (r.size + 1) out wd) : namL r = out ∧ out.all okN = true := by
  obtain ⟨h1, h2, h3, ⟨h4, h5⟩ | ⟨_, h4⟩⟩ := h
  · omega
  · exact ⟨map_inj_data (by rw [namL_spl, h4]), h1⟩
theorem owns_cap {w : World} {B : Nat} {E : TypeId} {A : Option Addr} {n c : Nat} {xs : List Value} (h : Owns w B E (.slice A n c) xs) : c ≤ maxLen := by
  rcases h.2 with ⟨hv, _⟩ | ⟨g, cap, cur, hv, _, _, _, hm, _⟩
  · injection hv with _ _ e; rw [e]; exact Nat.zero_le _
  · injection hv with _ _ e; rw [e]; exact hm
theorem owns_rd {w : World} {B : Nat} {E : TypeId} {A : Option Addr} {n c : Nat} {xs : List Value} (h : Owns w B E (.slice A n c) xs) : Rd w A xs := by
  obtain ⟨A', c', hv, hR, _⟩ := h.form
  injection hv with e1 _ _
  rw [e1]; exact hR
set_option maxRecDepth 20000 in
set_option maxHeartbeats 2000000 in
theorem RefNames_read (w : World) (s : ByteArray) (c : Nat) (hs : s.size ≤ 1000000) :
    Calls Tryd.prog 73 #[inV s c] w (ReadL w (namS s c) (namC s c) (namR s c)) := by
  have HTXT := Lib.hid (show ∀ W : World, _ from fun W => RefText_read W s c 4096 (by omega))
  have hrs := txtR_size s c 4096
  obtain ⟨r, hr⟩ : ∃ r, txtR s c 4096 = r := ⟨_, rfl⟩
  obtain ⟨s1, hs1⟩ : ∃ s1, txtS s c 4096 = s1 := ⟨_, rfl⟩
  obtain ⟨c1, hc1⟩ : ∃ c1, txtC s c 4096 = c1 := ⟨_, rfl⟩
  rw [hr] at hrs
  rw [hr, hs1, hc1] at HTXT
  have HR := Lib.hid hr
  have HS1 := Lib.hid hs1
  have HC1 := Lib.hid hc1
  have hrs2 : r.size ≤ 1000000 := by omega
  clear hr hs1 hc1 hrs hs
  unfold inV at HTXT ⊢
  by_cases h0 : r.size = 0
  · have HK := Lib.hid (show namK s c = 0 by unfold namK; rw [HR.out, if_pos h0])
    have hl := toList_empty h0
    have hl2 : r.toList.isEmpty = true := by rw [hl]; rfl
    clear h0
    go_enter Tryd.func73, Tryd.ntmps73
    go_wp2_with (go_at_call 74; refine (HTXT.out _).mono ?_; rintro e w1 ⟨rfl, hb1⟩; unfold inV
                 have hB : Rg.Blk w1 (w.heap.size + 1) 120 #[.string ⟨#[]⟩, .int .i64 0] := (Rg.Blk.newAt (w := w.alloc (.cells #[.string s, .int .i64 c] 120)) (by simp) _ _).below hb1 (by simp)
                 have q0 := hB.cell 0 (v := .string ⟨#[]⟩) rfl
                 have q1 := hB.cell 1 (v := .int .i64 0) rfl
                 have f0 := hB.frozen 0
                 have f1 := hB.frozen 1
                 have hz : w.heap.size + 1 < w1.heap.size := by have := hb1.size; simp at this; omega
                 have HB1 := Lib.hid hb1
                 have HQ := Lib.hid hB
                 clear hb1 hB)
    refine bodyPost_ret (v := .tuple #[.agg #[.string s1, .int .i64 c1], .slice none 0 0]) (by simp [results, Tryd.results73, go_sem, q0, q1, hz]) rfl ?_
    unfold namS namC namR
    rw [HK.out]
    refine ⟨none, 0, by rw [HS1.out, HC1.out]; rfl, ⟨Nat.le_refl _, Nat.zero_le _⟩, fun j x h => by simp at h, ?_⟩
    have h1 : Below w.heap.size w w1 := Below.trans (show Below w.heap.size w ((w.alloc (.cells #[.string s, .int .i64 c] 120)).alloc (.cells #[.string ⟨#[]⟩, .int .i64 0] 120)) by repeat (first | exact Below.refl _ _ | apply Below.drew | (refine Below.setCell ?_ ?_ _; rotate_left; focus (first | (simp; done) | (simp; omega) | omega)) | (refine Below.alloc ?_ ?_ _; rotate_left; focus (first | (simp; done) | (simp; omega) | omega)))) (HB1.out.mono (by simp; omega))
    refine Below.trans h1 ?_
    repeat (first | exact Below.refl _ _ | apply Below.drew | (refine Below.setCell ?_ ?_ _; rotate_left; focus (first | (simp; done) | (simp; omega) | omega)) | (refine Below.alloc ?_ ?_ _; rotate_left; focus (first | (simp; done) | (simp; omega) | omega)))
  · have hl2 := toList_ne h0
    have hc0 : c1 = 0 := by rw [← HC1.out]; exact txtR_pos (by rw [HR.out]; exact h0)
    subst hc0
    have H0 := Lib.hid h0
    clear h0
    go_enter Tryd.func73, Tryd.ntmps73
    go_wp2_with (go_at_call 74; refine (HTXT.out _).mono ?_; rintro e w1 ⟨rfl, hb1⟩; unfold inV
                 have hB : Rg.Blk w1 (w.heap.size + 1) 120 #[.string ⟨#[]⟩, .int .i64 0] := (Rg.Blk.newAt (w := w.alloc (.cells #[.string s, .int .i64 c] 120)) (by simp) _ _).below hb1 (by simp)
                 have q0 := hB.cell 0 (v := .string ⟨#[]⟩) rfl
                 have q1 := hB.cell 1 (v := .int .i64 0) rfl
                 have f0 := hB.frozen 0
                 have f1 := hB.frozen 1
                 have hz : w.heap.size + 1 < w1.heap.size := by have := hb1.size; simp at this; omega
                 have HB1 := Lib.hid hb1
                 have HQ := Lib.hid hB
                 clear hb1 hB)
    have h1 : Below w.heap.size w w1 := Below.trans (show Below w.heap.size w ((w.alloc (.cells #[.string s, .int .i64 c] 120)).alloc (.cells #[.string ⟨#[]⟩, .int .i64 0] 120)) by repeat (first | exact Below.refl _ _ | apply Below.drew | (refine Below.setCell ?_ ?_ _; rotate_left; focus (first | (simp; done) | (simp; omega) | omega)) | (refine Below.alloc ?_ ?_ _; rotate_left; focus (first | (simp; done) | (simp; omega) | omega)))) (HB1.out.mono (by simp; omega))
    have hX1 : Below w.heap.size w (w1.alloc (.cells #[.string s1, .int .i64 0] 120)) := h1.alloc h1.size _
    have hXB : Rg.Blk (w1.alloc (.cells #[.string s1, .int .i64 0] 120)) w1.heap.size 120 #[.string s1, .int .i64 0] := Rg.Blk.new w1 _ _
    have hXB2 : Rg.Blk (w1.alloc (.cells #[.string s1, .int .i64 0] 120)) (w.heap.size + 1) 120 #[.string ⟨#[]⟩, .int .i64 0] := HQ.out.alloc _
    have hXZ : (w1.alloc (.cells #[.string s1, .int .i64 0] 120)).heap.size = w1.heap.size + 1 := by simp
    generalize w1.alloc (.cells #[.string s1, .int .i64 0] 120) = X at *
    have HXZ := Lib.hid hXZ
    have HX1 := Lib.hid hX1
    have HXB := Lib.hid hXB
    have HXB2 := Lib.hid hXB2
    have HZ := Lib.hid hz
    clear hX1 hXB hXB2 q0 q1 f0 f1 h1 hXZ
    go_loopw [6, 7, 8] (fun v x i wr => ∃ (k : Nat) (out : List ByteArray) (wd : ByteArray), k ≤ r.size + 1 ∧ i = .int .i64 k ∧ x = .string wd ∧ Owns wr X.heap.size 9 v (out.map Value.string) ∧ Cut r k out wd ∧ Below X.heap.size X wr) (fun _ _ i _ => 1000002 - (intOf i).toNat)
    case atStart => exact ⟨0, [], ⟨#[]⟩, Nat.zero_le _, rfl, rfl, by rw [← HXZ.out]; exact Owns.new X X.heap.size 9 [] (Nat.le_refl _) (by decide), Cut.start r, (Below.refl _ _).alloc (Nat.le_refl _) _⟩
    case round =>
      obtain ⟨k, out, wd, hk, rfl, rfl, hO, hcut, hb⟩ := hrel
      have HO := Lib.hid hO
      have HCUT := Lib.hid hcut
      have HB := Lib.hid hb
      have hszb := hb.size
      have hwd : wd.size ≤ k := hcut.2.2.1
      have HOL := Lib.hid hcut.2.1
      have hkr : k ≤ 1000001 := by omega
      clear hO hcut hb
      by_cases hkz : k ≤ r.size
      · have hle : decide (k ≤ r.size) = true := by simp; exact hkz
        have hik : (k : Int) ≤ r.size := by omega
        by_cases hgo : ∃ h : k < r.size, r[k] ≠ 44
        · obtain ⟨hlt, hx⟩ := hgo
          have hd : decide (k < r.size) = true := by simp; exact hlt
          have hil : (k : Int) < r.size := by omega
          have hne : ((r[k].toNat : Int) != 44) = true := by
            rw [bne_iff_ne]; intro e; apply hx; apply UInt8.toNat_inj.1; have : (44 : UInt8).toNat = 44 := rfl; omega
          have HN := Lib.hid (HCUT.out.other hlt hx)
          have HE1 := Lib.hid (show (r.extract k (k + 1)).size = 1 by rw [ByteArray.size_extract]; omega)
          have hq : ¬ 9223372036854775807 < wd.size + (r.extract k (k + 1)).size := by rw [HE1.out]; omega
          have hk1 : (k : Int) + 1 ≤ r.size := by omega
          have hk2 : (0 : Int) ≤ k := by omega
          have hk3 : (k : Int) ≤ k + 1 := by omega
          have hk4 : ((k : Int) + 1).toNat = k + 1 := by omega
          have hk5 : (0 : Int) ≤ (k : Int) + 1 := by omega
          clear hx
          go_wp2_with fail
          go_roundw
          case rel =>
            first
              | exact ⟨k + 1, out, _, by omega, by go_num, rfl, HO.out, HN.out, HB.out⟩
              | ((repeat apply Exists.intro); refine ⟨?_, rfl⟩; exact ⟨k + 1, out, _, by omega, by go_num, rfl, HO.out, HN.out, HB.out⟩)
          case measure => simp [intOf]; omega
        · have hstop : k = r.size ∨ ∃ h : k < r.size, r[k] = 44 := by
            by_cases hlt : k < r.size
            · right
              exact ⟨hlt, Classical.byContradiction fun e => hgo ⟨hlt, e⟩⟩
            · left; omega
          have HSTOP := Lib.hid hstop
          have hways : decide (k < r.size) = false ∨ decide (k < r.size) = true ∧ ∃ h : k < r.size, ((r[k].toNat : Int) != 44) = false := by
            rcases hstop with rfl | ⟨hlt, hx⟩
            · left; simp
            · right
              exact ⟨by simp; exact hlt, hlt, by rw [hx]; rfl⟩
          clear hgo hstop
          cases hok : okN wd
          · have HBAD := Lib.hid (HCUT.out.bad HSTOP.out hok)
            have HOK := Lib.hid (show nameB wd.data.toList = false from hok)
            have HK := Lib.hid (show namK s c = 3 by unfold namK; rw [HR.out, if_neg H0.out, HBAD.out]; rfl)
            have hB2 := HXB2.out.below HB.out (by have := HXZ.out; have := HZ.out; omega)
            have p0 := hB2.cell 0 (v := .string ⟨#[]⟩) rfl
            have p1 := hB2.cell 1 (v := .int .i64 0) rfl
            have g0 := hB2.frozen 0
            have g1 := hB2.frozen 1
            have hz2 : w.heap.size + 1 < wr.heap.size := by have := HXZ.out; omega
            clear hok hB2
            rcases hways with hd | ⟨hd, hlt, hne⟩
            all_goals
              try have hil : (k : Int) < r.size := by omega
              go_wp2_with (go_at_call 49; refine (RefName_any _ wd (by omega)).mono ?_; rintro e w3 ⟨rfl, rfl⟩; skip; rw [HOK.out])
              refine bodyPost_ret (v := .tuple #[.agg #[.string ⟨#[]⟩, .int .i64 3], .slice none 0 0]) (by simp [results, Tryd.results73, go_sem, p0, p1, hz2]) rfl ?_
              unfold namS namC namR
              rw [HK.out]
              refine ⟨none, 0, rfl, ⟨Nat.le_refl _, Nat.zero_le _⟩, fun j x h => by simp at h, ?_⟩
              refine Below.trans (HX1.out.trans (HB.out.mono HX1.out.size)) ?_
              repeat (first | exact Below.refl _ _ | apply Below.drew | (refine Below.setCell ?_ ?_ _; rotate_left; focus (first | (simp; done) | (simp; omega) | omega)) | (refine Below.alloc ?_ ?_ _; rotate_left; focus (first | (simp; done) | (simp; omega) | omega)))
          · have HOK := Lib.hid (show nameB wd.data.toList = true from hok)
            have HOKN := Lib.hid hok
            have HMS := Lib.hid (show out.map Value.string ++ [.string wd] = (out ++ [wd]).map Value.string by simp)
            have HN := Lib.hid (show Cut r (k + 1) (out ++ [wd]) ⟨#[]⟩ from by
              rcases HSTOP.out with rfl | ⟨hlt, hx⟩
              · exact HCUT.out.last hok
              · exact HCUT.out.comma hlt hx hok)
            clear hok
            rcases hways with hd | ⟨hd, hlt, hne⟩
            all_goals
              try have hil : (k : Int) < r.size := by omega
              go_wp2_with (first
                | (go_at_call 49; refine (RefName_any _ wd (by omega)).mono ?_; rintro e w3 ⟨rfl, rfl⟩; skip; rw [HOK.out])
                | (at_builtin; go_loud (refine app1 rfl _ _ _ rfl Tryd.underlying23 infoStr rfl (by decide) HO.out rfl rfl rfl ?_ hszb ?_)
                   · rw [List.length_map]; have := HOL.out; omega
                   intro v' w3 hO' hg' _
                   rw [HMS.out] at hO'
                   have HO' := Lib.hid hO'
                   have HB' := Lib.hid (HB.out.grown hg' hszb (HO.out.ge (Nat.le_refl _)))
                   clear hO' hg'))
              go_roundw
              case rel =>
                first
                  | exact ⟨k + 1, out ++ [wd], ⟨#[]⟩, by omega, by go_num, rfl, HO'.out, HN.out, HB'.out⟩
                  | ((repeat apply Exists.intro); refine ⟨?_, rfl⟩; exact ⟨k + 1, out ++ [wd], ⟨#[]⟩, by omega, by go_num, rfl, HO'.out, HN.out, HB'.out⟩)
              case measure => simp [intOf]; omega
      · obtain rfl : k = r.size + 1 := by omega
        have hle : decide (((r.size + 1 : Nat) : Int) ≤ r.size) = false := by rw [decide_eq_false_iff_not]; omega
        have hle2 : decide ((r.size : Int) + 1 ≤ r.size) = false := by rw [decide_eq_false_iff_not]; omega
        have hle3 : decide (r.size + 1 ≤ r.size) = false := by rw [decide_eq_false_iff_not]; omega
        obtain ⟨hnl, hall⟩ := HCUT.out.full
        have HK := Lib.hid (show namK s c = 1 by unfold namK; rw [HR.out, if_neg H0.out, hnl, if_pos hall])
        have HNL := Lib.hid hnl
        obtain ⟨A4, c4, rfl, hrd4, hc4⟩ := HO.out.form
        have hrd5 := hrd4
        have HRD4 := Lib.hid hrd4
        clear hrd4 hrd5
        have hB1 := HXB.out.below HB.out (by have := HXZ.out; omega)
        have hB2 := HXB2.out.below HB.out (by have := HXZ.out; have := HZ.out; omega)
        have p0 := hB2.cell 0 (v := .string ⟨#[]⟩) rfl
        have p1 := hB2.cell 1 (v := .int .i64 0) rfl
        have g0 := hB2.frozen 0
        have g1 := hB2.frozen 1
        have r0 := hB1.cell 0 (v := .string s1) rfl
        have r1 := hB1.cell 1 (v := .int .i64 0) rfl
        have hz2 : w.heap.size + 1 < wr.heap.size := by have := HXZ.out; omega
        rw [List.length_map] at hc4 ⊢
        clear hB1 hB2 hnl hall
        go_wp2_with fail
        refine bodyPost_ret (v := .tuple #[.agg #[.string s1, .int .i64 0], .slice A4 out.length c4]) (by simp [results, Tryd.results73, go_sem, p0, p1, hz2]) rfl ?_
        unfold namS namC namR
        rw [HK.out, HR.out, HNL.out]
        refine ⟨A4, c4, by rw [HS1.out, HC1.out]; rfl, ⟨hc4, owns_cap HO.out⟩, ?_, ?_⟩
        · refine RdS.of (HO.out.kept (row := some (w.heap.size + 1)) (grown_set (grown_set (World.grownBy.refl _ _) _ _) _ _) (.inr fun e => ?_)) HX1.out.size
          have h6 := (HO.out.lt _ e).1
          have h7 := HXZ.out
          have h8 := HZ.out
          omega
        refine Below.trans (HX1.out.trans (HB.out.mono HX1.out.size)) ?_
        repeat (first | exact Below.refl _ _ | apply Below.drew | (refine Below.setCell ?_ ?_ _; rotate_left; focus (first | (simp; done) | (simp; omega) | omega)) | (refine Below.alloc ?_ ?_ _; rotate_left; focus (first | (simp; done) | (simp; omega) | omega)))
end Go.Proofs.YtjfikbnfabdkoaaDoor.Wi
