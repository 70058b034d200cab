/- The laws' awake of layer 13. -/
import Derived.Test.YtjfikbnfabdkoaaDoorOff5
set_option linter.unusedVariables false
set_option linter.unusedSimpArgs false
namespace Go.Proofs.YtjfikbnfabdkoaaDoor.Of
open Go.RowKit Go.Proofs.YtjfikbnfabdkoaaDoor.Wi Go.Proofs.YtjfikbnfabdkoaaDoor.Ow Go.Proofs.YtjfikbnfabdkoaaDoor.Be Go.Proofs.YtjfikbnfabdkoaaDoor.Mg Go.Proofs.YtjfikbnfabdkoaaDoor.Sp
def awl : List UInt8 := [1, 0, 0, 0, 0, 0, 0, 0, 0, 0, 0, 0, 0, 0, 0, 0]
def awM13 : Msg := mkM awl [kexB] [hostB] [cipherB] [noneB] [noneB] false
def awO : List ByteArray := [kexB, hostB, cipherB, cipherB, impliedB, impliedB, noneB, noneB]
theorem aw_ok : okm awM13 = true := by decide +kernel
theorem aw_agr : agr awM13.n awM13.n 8 [] = (awO, none) := by decide +kernel
theorem aw_skp : skp awM13 awM13 = false := by decide +kernel
theorem aw_cho : choC awO false false = #[.string ⟨#[99, 117, 114, 118, 101, 50, 53, 53, 49, 57, 45, 115, 104, 97, 50, 53, 54]⟩, .string ⟨#[115, 115, 104, 45, 101, 100, 50, 53, 53, 49, 57]⟩, .string ⟨#[99, 104, 97, 99, 104, 97, 50, 48, 45, 112, 111, 108, 121, 49, 51, 48, 53]⟩, .string ⟨#[99, 104, 97, 99, 104, 97, 50, 48, 45, 112, 111, 108, 121, 49, 51, 48, 53]⟩, .string ⟨#[105, 109, 112, 108, 105, 101, 100]⟩, .string ⟨#[105, 109, 112, 108, 105, 101, 100]⟩, .string ⟨#[110, 111, 110, 101]⟩, .string ⟨#[110, 111, 110, 101]⟩, .bool false, .bool false] := rfl
theorem aw_arr : (bv awl).toArray = #[.int .u8 1, .int .u8 0, .int .u8 0, .int .u8 0, .int .u8 0, .int .u8 0, .int .u8 0, .int .u8 0, .int .u8 0, .int .u8 0, .int .u8 0, .int .u8 0, .int .u8 0, .int .u8 0, .int .u8 0, .int .u8 0] := rfl
theorem aw_fit13 : Fit awM13 := by
  have h : (awM13.u.all (fun x => decide (x < 4294967296)) && awM13.s.all (fun x => decide (x.size ≤ 1000000)) && awM13.n.all (fun l => decide (l.length ≤ 100000) && decide ((joinC l).length ≤ 1000000) && l.all (fun x => decide (x.size ≤ 1000000)))) = true := by decide +kernel
  simp only [Bool.and_eq_true] at h
  refine ⟨fun x hx => by simpa using List.all_eq_true.1 h.1.1 x hx, fun x hx => by simpa using List.all_eq_true.1 h.1.2 x hx, fun l hl => ?_⟩
  have h2 := List.all_eq_true.1 h.2 l hl
  simp only [Bool.and_eq_true, decide_eq_true_eq] at h2
  exact ⟨h2.1.1, h2.1.2, fun x hx => by simpa using List.all_eq_true.1 h2.2 x hx⟩
set_option maxRecDepth 20000 in
set_option maxHeartbeats 4000000 in
theorem awake13 (w : World) (a : Nat → Addr) (hE : ErrsO w a) (hT : TabR w) : Calls Tryd.prog 10 #[] w fun e w' => e = .returned (.bool true) ∧ Below w.heap.size w w' := by
  have HOU := Lib.hid (Ours_any w)
  have HMK := Lib.hid (show ∀ W v0 v1 v2 v3, SL W v0 ([kexB].map Value.string) → SL W v1 ([hostB].map Value.string) → SL W v2 ([cipherB].map Value.string) → SL W v3 ([noneB].map Value.string) → Calls Tryd.prog 12 #[.agg #[.int .u8 1, .int .u8 0, .int .u8 0, .int .u8 0, .int .u8 0, .int .u8 0, .int .u8 0, .int .u8 0, .int .u8 0, .int .u8 0, .int .u8 0, .int .u8 0, .int .u8 0, .int .u8 0, .int .u8 0, .int .u8 0], .agg #[v0, v1, v2, v3, v3], .bool false] W fun e w' => ∃ xu xs xn xb, e = .returned (.agg #[.int .i64 20, xu, xs, xn, xb]) ∧ IsMsg w' awM13 xu xs xn xb ∧ Below W.heap.size W w' from fun W v0 v1 v2 v3 h0 h1 h2 h3 => by
    have := Make_any W awl rfl v0 v1 v2 v3 v3 _ _ _ _ _ h0 h1 h2 h3 h3 (by decide) false
    rw [aw_arr] at this
    exact this)
  have HAG := Lib.hid (show ∀ W xu xs xn xb, Below w.heap.size w W → IsMsg W awM13 xu xs xn xb → Calls Tryd.prog 24 #[.agg #[.int .i64 20, xu, xs, xn, xb], .agg #[.int .i64 20, xu, xs, xn, xb]] W fun e w' => e = .returned (.tuple #[.agg #[.string ⟨#[99, 117, 114, 118, 101, 50, 53, 53, 49, 57, 45, 115, 104, 97, 50, 53, 54]⟩, .string ⟨#[115, 115, 104, 45, 101, 100, 50, 53, 53, 49, 57]⟩, .string ⟨#[99, 104, 97, 99, 104, 97, 50, 48, 45, 112, 111, 108, 121, 49, 51, 48, 53]⟩, .string ⟨#[99, 104, 97, 99, 104, 97, 50, 48, 45, 112, 111, 108, 121, 49, 51, 48, 53]⟩, .string ⟨#[105, 109, 112, 108, 105, 101, 100]⟩, .string ⟨#[105, 109, 112, 108, 105, 101, 100]⟩, .string ⟨#[110, 111, 110, 101]⟩, .string ⟨#[110, 111, 110, 101]⟩, .bool false, .bool false], .nilIface]) ∧ Below W.heap.size W w' from fun W xu xs xn xb hW hm => by
    refine (Agree_any W a (hE.below hW) (hT.below hW) awM13 awM13 xu xs xn xb xu xs xn xb hm hm aw_fit13 aw_fit13).mono ?_
    intro e w' h
    have h2 := h.yes (by rw [aw_ok]; rfl) _ aw_agr
    rw [aw_skp, aw_cho] at h2
    exact ⟨h2, h.bel⟩)
  clear hE hT
  go_enter Tryd.func10, Tryd.ntmps10
  go_wp2_with (first
    | (go_at_call 35; refine HOU.out.mono ?_; rintro e w1 ⟨v0, v1, v2, v3, rfl, h0, h1, h2, h3, hb1⟩; skip; have HW := Lib.hid hb1; have HMK1 := Lib.hid (HMK.out _ _ _ _ _ h0 h1 h2 h3); clear hb1 h0 h1 h2 h3)
    | (go_at_call 12; refine HMK1.out.mono ?_; rintro e w2 ⟨xu, xs, xn, xb, rfl, hm, hb2⟩
       obtain ⟨au, nu, cu, rfl, _⟩ := hm.u
       obtain ⟨aS, nS, cS, rfl, _⟩ := hm.s
       obtain ⟨vns, ⟨an, nn, cn, rfl, hnl, _⟩, hnn, _⟩ := hm.n
       obtain ⟨ab, nb, cb, rfl, _⟩ := hm.b
       obtain rfl : nn = 10 := by rw [← hnl, hnn]; rfl
       have HI := Lib.hid hm
       have HWx := Lib.hid (HW.out.trans (hb2.mono HW.out.size)); clear HW; have HW := HWx; clear HWx
       clear hm hb2)
    | (refine Rg.store_fresh rfl 32 _ _ rfl #[.int .i64 20, .slice au nu cu, .slice aS nS cS, .slice an 10 cn, .slice ab nb cb] _ 32 rfl rfl (by kernel_rfl) rfl (by simp [Value.oneCell']) ?_
       intro Y hY hbY
       have HD := Lib.hid hY; have HIx := Lib.hid (HI.out.below hbY); clear HI; have HI := HIx; clear HIx; have HWx := Lib.hid (HW.out.trans (hbY.mono HW.out.size)); clear HW; have HW := HWx; clear HWx
       clear hY hbY)
    | (refine wpList_load_row rfl 32 _ rfl _ rfl _ _ _ _ HD.out Tryd.underlying32 rfl (by kernel_rfl) ?_; skip)
    | (go_at_call 24; refine (HAG.out _ _ _ _ _ HW.out HI.out).mono ?_; rintro e w3 ⟨rfl, hb3⟩; skip; have HWx := Lib.hid (HW.out.trans (hb3.mono HW.out.size)); clear HW; have HW := HWx; clear HWx; have HDx := Lib.hid (HD.out.below hb3 HD.out.lt); clear HD; have HD := HDx; clear HDx; clear hb3)
    | (refine Rg.store_fresh rfl 55 _ _ rfl #[.string ⟨#[99, 117, 114, 118, 101, 50, 53, 53, 49, 57, 45, 115, 104, 97, 50, 53, 54]⟩, .string ⟨#[115, 115, 104, 45, 101, 100, 50, 53, 53, 49, 57]⟩, .string ⟨#[99, 104, 97, 99, 104, 97, 50, 48, 45, 112, 111, 108, 121, 49, 51, 48, 53]⟩, .string ⟨#[99, 104, 97, 99, 104, 97, 50, 48, 45, 112, 111, 108, 121, 49, 51, 48, 53]⟩, .string ⟨#[105, 109, 112, 108, 105, 101, 100]⟩, .string ⟨#[105, 109, 112, 108, 105, 101, 100]⟩, .string ⟨#[110, 111, 110, 101]⟩, .string ⟨#[110, 111, 110, 101]⟩, .bool false, .bool false] _ 55 rfl rfl (by kernel_rfl) rfl (by simp [Value.oneCell']) ?_
       intro Z hZ hbZ
       have y0 := hZ.cell 0 (v := .string ⟨#[99, 117, 114, 118, 101, 50, 53, 53, 49, 57, 45, 115, 104, 97, 50, 53, 54]⟩) rfl
       have y4 := hZ.cell 4 (v := .string ⟨#[105, 109, 112, 108, 105, 101, 100]⟩) rfl
       have y8 := hZ.cell 8 (v := .bool false) rfl
       have d3 := (HD.out.below hbZ HD.out.lt).cell 3 (v := .slice an 10 cn) rfl
       have HWx := Lib.hid (HW.out.trans (hbZ.mono HW.out.size)); clear HW; have HW := HWx; clear HWx
       clear hZ hbZ))
  go_ret
  exact ⟨by simp, HW.out⟩
end Go.Proofs.YtjfikbnfabdkoaaDoor.Of
