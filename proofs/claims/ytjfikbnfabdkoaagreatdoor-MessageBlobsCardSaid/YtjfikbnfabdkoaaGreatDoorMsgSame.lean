/- The laws' Same: of equal messages it is true. -/
import Derived.Test.YtjfikbnfabdkoaaGreatDoorMsgB
import Derived.Deep.QuietTactic
import Derived.BigQuiet
set_option linter.unusedVariables false
set_option linter.unusedSimpArgs false
namespace Go.Proofs.YtjfikbnfabdkoaaGreatDoor.Mg
open Go.RowKit Go.Proofs.YtjfikbnfabdkoaaGreatDoor.Wi Go.Proofs.YtjfikbnfabdkoaaGreatDoor.Ow Go.Proofs.YtjfikbnfabdkoaaGreatDoor.Be
theorem belowN {B : Nat} {w w' : World} (h : Below B w w') (n : Nat) : Below B w (w'.drewN n) := ⟨h.os, h.tape, h.output, h.size, h.block⟩
set_option maxRecDepth 20000 in
set_option maxHeartbeats 8000000 in
theorem Same_true (w : World) (m : Msg) (vu vs vn vb xu xs xn xb : Value) (hm : IsMsg w m vu vs vn vb) (hx : IsMsg w m xu xs xn xb) :
    Calls Tryz.prog 16 #[.agg (mC m.kind vu vs vn vb), .agg (mC m.kind xu xs xn xb)] w fun e w' => e = .returned (.bool true) ∧ Below w.heap.size w w' := by
  obtain ⟨kind, us, ss, ns, bs⟩ := m
  obtain ⟨au, nu, cu, rfl, hlu, hRu, hu1, hu2⟩ := hm.u
  obtain ⟨aS, nS, cS, rfl, hlS, hRS, hs1, hs2⟩ := hm.s
  obtain ⟨vns, ⟨an, nn, cn, rfl, hln, hRn, hn1, hn2⟩, hvl, hvn⟩ := hm.n
  obtain ⟨ab, nb, cb, rfl, hlb, hRb, hb1, hb2⟩ := hm.b
  obtain ⟨du, mu, eu, rfl, klu, kRu, ku1, ku2⟩ := hx.u
  obtain ⟨dS, mS, eS, rfl, klS, kRS, ks1, ks2⟩ := hx.s
  obtain ⟨xns, ⟨dn, mn, en, rfl, kln, kRn, kn1, kn2⟩, kvl, kvn⟩ := hx.n
  obtain ⟨db, mb, eb, rfl, klb, kRb, kb1, kb2⟩ := hx.b
  obtain rfl : mu = nu := klu.symm.trans hlu
  obtain rfl : mS = nS := klS.symm.trans hlS
  obtain rfl : mb = nb := klb.symm.trans hlb
  simp only at hvl kvl hvn kvn
  obtain rfl : mn = nn := by omega
  rw [List.length_map] at hlu hlS hlb
  have HLU := Lib.hid hlu
  have HLS := Lib.hid hlS
  have HLB := Lib.hid hlb
  have HLV := Lib.hid hln
  have HLX := Lib.hid kln
  have HLN := Lib.hid (show ns.length = mn by omega)
  have HRu := Lib.hid hRu
  have HRS := Lib.hid hRS
  have HRn := Lib.hid hRn
  have HRb := Lib.hid hRb
  have KRu := Lib.hid kRu
  have KRS := Lib.hid kRS
  have KRn := Lib.hid kRn
  have KRb := Lib.hid kRb
  have HVN := Lib.hid hvn
  have KVN := Lib.hid kvn
  unfold maxLen at hu2 hs2 hn2 hb2
  have gu : mu ≤ 9223372036854775807 := by omega
  have gS : mS ≤ 9223372036854775807 := by omega
  have gn : mn ≤ 9223372036854775807 := by omega
  have gb : mb ≤ 9223372036854775807 := by omega
  clear hm hx hlu hlS hlb hln hvl klu klS klb kln kvl hRu hRS hRn hRb kRu kRS kRn kRb hvn kvn hu1 hu2 hs1 hs2 hn1 hn2 hb1 hb2 ku1 ku2 ks1 ks2 kn1 kn2 kb1 kb2
  unfold mC
  have hX1 : Rg.Blk ((w.alloc (.cells #[.int .i64 kind, .slice au mu cu, .slice aS mS cS, .slice an mn cn, .slice ab mb cb] 47)).alloc (.cells #[.int .i64 kind, .slice du mu eu, .slice dS mS eS, .slice dn mn en, .slice db mb eb] 52)) w.heap.size 47 #[.int .i64 kind, .slice au mu cu, .slice aS mS cS, .slice an mn cn, .slice ab mb cb] := (Rg.Blk.new w _ _).alloc _
  have hX2 : Rg.Blk ((w.alloc (.cells #[.int .i64 kind, .slice au mu cu, .slice aS mS cS, .slice an mn cn, .slice ab mb cb] 47)).alloc (.cells #[.int .i64 kind, .slice du mu eu, .slice dS mS eS, .slice dn mn en, .slice db mb eb] 52)) (w.heap.size + 1) 52 #[.int .i64 kind, .slice du mu eu, .slice dS mS eS, .slice dn mn en, .slice db mb eb] := Rg.Blk.newAt (by simp) _ _
  have hXW : Below w.heap.size w ((w.alloc (.cells #[.int .i64 kind, .slice au mu cu, .slice aS mS cS, .slice an mn cn, .slice ab mb cb] 47)).alloc (.cells #[.int .i64 kind, .slice du mu eu, .slice dS mS eS, .slice dn mn en, .slice db mb eb] 52)) := ((Below.refl _ _).alloc (Nat.le_refl _) _).alloc (by simp) _
  go_enter Tryz.func16, Tryz.ntmps16
  go_wp2_with fail
  generalize ((w.alloc (.cells #[.int .i64 kind, .slice au mu cu, .slice aS mS cS, .slice an mn cn, .slice ab mb cb] 47)).alloc (.cells #[.int .i64 kind, .slice du mu eu, .slice dS mS eS, .slice dn mn en, .slice db mb eb] 52)) = X at *
  have HX1 := Lib.hid hX1
  have HX2 := Lib.hid hX2
  have HXW := Lib.hid hXW
  clear hX1 hX2 hXW
  go_loopw [55] (fun i wr => ∃ k : Nat, k ≤ mu ∧ i = .int .i64 k ∧ Below X.heap.size X wr) (fun i _ => mu - (intOf i).toNat)
  case atStart => exact ⟨0, Nat.zero_le _, rfl, Below.refl _ _⟩
  case round =>
    obtain ⟨k, hk, rfl, hb⟩ := hrel
    have HBU := Lib.hid hb
    have p1 := (HX1.out.below hb HX1.out.lt).cell 1 (v := .slice au mu cu) rfl
    have p2 := (HX2.out.below hb HX2.out.lt).cell 1 (v := .slice du mu eu) rfl
    clear hb
    by_cases hkn : k < mu
    · have hd : decide (k < mu) = true := by simp; exact hkn
      have hik : (k : Int) < mu := by omega
      have hik0 : (0 : Int) ≤ k := by omega
      obtain ⟨b1, o1, rfl, hl1, hc1⟩ := HRu.out.at_ (j := k) (by rw [List.length_map, HLU.out]; exact hkn)
      obtain ⟨b2, o2, rfl, hl2, hc2⟩ := KRu.out.at_ (j := k) (by rw [List.length_map, HLU.out]; exact hkn)
      rw [List.getElem_map] at hc1 hc2
      generalize us[k]'(by rw [HLU.out]; exact hkn) = x at *
      have y1 := ((HXW.out.trans (HBU.out.mono HXW.out.size)).cell (p := ⟨b1, o1 + k, none⟩) hl1).trans hc1
      have y2 := ((HXW.out.trans (HBU.out.mono HXW.out.size)).cell (p := ⟨b2, o2 + k, none⟩) hl2).trans hc2
      clear hl1 hl2 hc1 hc2
      go_wp2_with fail
      go_quiet (fail)
      go_wp2_with fail
      go_roundw
      case rel =>
        first
          | exact ⟨k + 1, by omega, by go_num, belowN HBU.out _⟩
          | ((repeat apply Exists.intro); refine ⟨?_, rfl⟩; exact ⟨k + 1, by omega, by go_num, belowN HBU.out _⟩)
      case measure => simp [intOf]; omega
    · obtain rfl : k = mu := by omega
      have hd : decide (k < k) = false := by simp
      have n1 := (HX2.out.below HBU.out HX2.out.lt).cell 2 (v := .slice dS mS eS) rfl
      go_wp2_with fail
      clear n1 p1 p2 hd
      go_loopw [73] (fun i wr => ∃ k : Nat, k ≤ mS ∧ i = .int .i64 k ∧ Below X.heap.size X wr) (fun i _ => mS - (intOf i).toNat)
      case atStart => exact ⟨0, Nat.zero_le _, rfl, HBU.out⟩
      case round =>
        obtain ⟨k, hk, rfl, hb⟩ := hrel
        have HBS := Lib.hid hb
        have p1 := (HX1.out.below hb HX1.out.lt).cell 2 (v := .slice aS mS cS) rfl
        have p2 := (HX2.out.below hb HX2.out.lt).cell 2 (v := .slice dS mS eS) rfl
        clear hb
        by_cases hkn : k < mS
        · have hd : decide (k < mS) = true := by simp; exact hkn
          have hik : (k : Int) < mS := by omega
          have hik0 : (0 : Int) ≤ k := by omega
          obtain ⟨b1, o1, rfl, hl1, hc1⟩ := HRS.out.at_ (j := k) (by rw [List.length_map, HLS.out]; exact hkn)
          obtain ⟨b2, o2, rfl, hl2, hc2⟩ := KRS.out.at_ (j := k) (by rw [List.length_map, HLS.out]; exact hkn)
          rw [List.getElem_map] at hc1 hc2
          generalize ss[k]'(by rw [HLS.out]; exact hkn) = x at *
          have y1 := ((HXW.out.trans (HBS.out.mono HXW.out.size)).cell (p := ⟨b1, o1 + k, none⟩) hl1).trans hc1
          have y2 := ((HXW.out.trans (HBS.out.mono HXW.out.size)).cell (p := ⟨b2, o2 + k, none⟩) hl2).trans hc2
          clear hl1 hl2 hc1 hc2
          go_wp2_with fail
          go_quiet (fail)
          go_wp2_with fail
          go_roundw
          case rel =>
            first
              | exact ⟨k + 1, by omega, by go_num, belowN HBS.out _⟩
              | ((repeat apply Exists.intro); refine ⟨?_, rfl⟩; exact ⟨k + 1, by omega, by go_num, belowN HBS.out _⟩)
          case measure => simp [intOf]; omega
        · obtain rfl : k = mS := by omega
          have hd : decide (k < k) = false := by simp
          have n1 := (HX2.out.below HBS.out HX2.out.lt).cell 4 (v := .slice db mb eb) rfl
          go_wp2_with fail
          clear n1 p1 p2 hd
          go_loopw [91] (fun i wr => ∃ k : Nat, k ≤ mb ∧ i = .int .i64 k ∧ Below X.heap.size X wr) (fun i _ => mb - (intOf i).toNat)
          case atStart => exact ⟨0, Nat.zero_le _, rfl, HBS.out⟩
          case round =>
            obtain ⟨k, hk, rfl, hb⟩ := hrel
            have HBB := Lib.hid hb
            have p1 := (HX1.out.below hb HX1.out.lt).cell 4 (v := .slice ab mb cb) rfl
            have p2 := (HX2.out.below hb HX2.out.lt).cell 4 (v := .slice db mb eb) rfl
            clear hb
            by_cases hkn : k < mb
            · have hd : decide (k < mb) = true := by simp; exact hkn
              have hik : (k : Int) < mb := by omega
              have hik0 : (0 : Int) ≤ k := by omega
              obtain ⟨b1, o1, rfl, hl1, hc1⟩ := HRb.out.at_ (j := k) (by rw [List.length_map, HLB.out]; exact hkn)
              obtain ⟨b2, o2, rfl, hl2, hc2⟩ := KRb.out.at_ (j := k) (by rw [List.length_map, HLB.out]; exact hkn)
              rw [List.getElem_map] at hc1 hc2
              generalize bs[k]'(by rw [HLB.out]; exact hkn) = x at *
              have y1 := ((HXW.out.trans (HBB.out.mono HXW.out.size)).cell (p := ⟨b1, o1 + k, none⟩) hl1).trans hc1
              have y2 := ((HXW.out.trans (HBB.out.mono HXW.out.size)).cell (p := ⟨b2, o2 + k, none⟩) hl2).trans hc2
              clear hl1 hl2 hc1 hc2
              go_wp2_with fail
              go_quiet (fail)
              go_wp2_with fail
              go_roundw
              case rel =>
                first
                  | exact ⟨k + 1, by omega, by go_num, belowN HBB.out _⟩
                  | ((repeat apply Exists.intro); refine ⟨?_, rfl⟩; exact ⟨k + 1, by omega, by go_num, belowN HBB.out _⟩)
              case measure => simp [intOf]; omega
            · obtain rfl : k = mb := by omega
              have hd : decide (k < k) = false := by simp
              have n1 := (HX2.out.below HBB.out HX2.out.lt).cell 3 (v := .slice dn mn en) rfl
              go_wp2_with fail
              clear n1 p1 p2 hd
              go_loopw [109] (fun i wr => ∃ k : Nat, k ≤ mn ∧ i = .int .i64 k ∧ Below X.heap.size X wr) (fun i _ => mn - (intOf i).toNat)
              case atStart => exact ⟨0, Nat.zero_le _, rfl, HBB.out⟩
              case round =>
                obtain ⟨k, hk, rfl, hb⟩ := hrel
                have HBN := Lib.hid hb
                have p1 := (HX1.out.below hb HX1.out.lt).cell 3 (v := .slice an mn cn) rfl
                clear hb
                by_cases hkn : k < mn
                · have hd : decide (k < mn) = true := by simp; exact hkn
                  have hik : (k : Int) < mn := by omega
                  have hik0 : (0 : Int) ≤ k := by omega
                  have hx : ns[k]? = some (ns[k]'(by rw [HLN.out]; exact hkn)) := List.getElem?_eq_getElem _
                  generalize ns[k]'(by rw [HLN.out]; exact hkn) = x at *
                  obtain ⟨u1, hu1, xa, xn, xc, rfl, hxn, hRX, hxc, hxm⟩ := HVN.out k x hx
                  obtain ⟨u2, hu2, ya, yn, yc, rfl, hyn, hRY, hyc, hym⟩ := KVN.out k x hx
                  obtain rfl : yn = xn := hyn.symm.trans hxn
                  rw [List.length_map] at hxn
                  obtain ⟨b1, o1, rfl, hl1, hc1⟩ := HRn.out.at_ (j := k) (by rw [HLV.out]; exact hkn)
                  obtain ⟨b2, o2, rfl, hl2, hc2⟩ := KRn.out.at_ (j := k) (by rw [HLX.out]; exact hkn)
                  rw [(List.getElem?_eq_some_iff.1 hu1).2] at hc1
                  rw [(List.getElem?_eq_some_iff.1 hu2).2] at hc2
                  have y1 := ((HXW.out.trans (HBN.out.mono HXW.out.size)).cell (p := ⟨b1, o1 + k, none⟩) hl1).trans hc1
                  have y2 := ((HXW.out.trans (HBN.out.mono HXW.out.size)).cell (p := ⟨b2, o2 + k, none⟩) hl2).trans hc2
                  have Y1 := Lib.hid hc1
                  have HL1 := Lib.hid hl1
                  have HXN := Lib.hid hxn
                  have HRX := Lib.hid hRX
                  have HRY := Lib.hid hRY
                  unfold maxLen at hxm
                  have gx : yn ≤ 9223372036854775807 := by omega
                  clear hx hu1 hu2 hxn hyn hRX hRY hxc hxm hyc hym hl1 hl2 hc1 hc2
                  go_wp2_with fail
                  clear y1 y2 p1
                  go_loopw [125] (fun i w2 => ∃ q : Nat, q ≤ yn ∧ i = .int .i64 q ∧ Below X.heap.size X w2) (fun i _ => yn - (intOf i).toNat)
                  case atStart => exact ⟨0, Nat.zero_le _, rfl, HBN.out⟩
                  case round =>
                    obtain ⟨q, hq, rfl, hb⟩ := hrel
                    have HBQ := Lib.hid hb
                    have HWQ := Lib.hid (HXW.out.trans (hb.mono HXW.out.size))
                    have p1 := (HX1.out.below hb HX1.out.lt).cell 3 (v := .slice (some ⟨b1, o1, none⟩) mn cn) rfl
                    have z1 := (HWQ.out.cell (p := ⟨b1, o1 + k, none⟩) HL1.out).trans Y1.out
                    clear hb
                    by_cases hqn : q < yn
                    · have hd2 : decide (q < yn) = true := by simp; exact hqn
                      have hiq : (q : Int) < yn := by omega
                      have hiq0 : (0 : Int) ≤ q := by omega
                      obtain ⟨b3, o3, rfl, hl3, hc3⟩ := HRX.out.at_ (j := q) (by rw [List.length_map, HXN.out]; exact hqn)
                      obtain ⟨b4, o4, rfl, hl4, hc4⟩ := HRY.out.at_ (j := q) (by rw [List.length_map, HXN.out]; exact hqn)
                      rw [List.getElem_map] at hc3 hc4
                      generalize x[q]'(by rw [HXN.out]; exact hqn) = y at *
                      have z3 := (HWQ.out.cell (p := ⟨b3, o3 + q, none⟩) hl3).trans hc3
                      have z4 := (HWQ.out.cell (p := ⟨b4, o4 + q, none⟩) hl4).trans hc4
                      clear hl3 hl4 hc3 hc4
                      go_wp2_with fail
                      go_quiet (fail)
                      go_wp2_with fail
                      go_roundw
                      case rel =>
                        first
                          | exact ⟨q + 1, by omega, by go_num, belowN HBQ.out _⟩
                          | ((repeat apply Exists.intro); refine ⟨?_, rfl⟩; exact ⟨q + 1, by omega, by go_num, belowN HBQ.out _⟩)
                      case measure => simp [intOf]; omega
                    · obtain rfl : q = yn := by omega
                      have hd2 : decide (q < q) = false := by simp
                      go_wp2_with fail
                      go_roundw
                      case rel =>
                        first
                          | exact ⟨k + 1, by omega, by go_num, HBQ.out⟩
                          | ((repeat apply Exists.intro); refine ⟨?_, rfl⟩; exact ⟨k + 1, by omega, by go_num, HBQ.out⟩)
                      case measure => simp [intOf]; omega
                · obtain rfl : k = mn := by omega
                  have hd : decide (k < k) = false := by simp
                  go_wp2_with fail
                  go_ret
                  exact ⟨rfl, HXW.out.trans (HBN.out.mono HXW.out.size)⟩
end Go.Proofs.YtjfikbnfabdkoaaGreatDoor.Mg
