/- The reference's Count. -/
import Derived.Test.YtfcemnebhapidaaDoorTmMem
set_option linter.unusedVariables false
set_option linter.unusedSimpArgs false
namespace Go.Proofs.YtfcemnebhapidaaDoor.Te
open Go.RowKit Go.Proofs.YtfcemnebhapidaaDoor.Ow
set_option maxRecDepth 20000 in
set_option maxHeartbeats 4000000 in
theorem RCount_any (w : World) (x : List UInt8) : Calls Tryd.prog 30 #[.string (strB x)] w fun e w' => e = .returned (.int .i64 (cnt x : Nat)) ∧ Below w.heap.size w w' := by
  by_cases n0 : x = word 0
  · have hx := n0
    have HC := Lib.hid (show cnt x = 1 by rw [hx]; decide)
    have e0 : ([104, 97, 115, 104] == (strB x).toList) = true := by rw [strB_toList, hx]; rfl
    have e1 : ([112, 111, 105, 110, 116] == (strB x).toList) = false := by rw [strB_toList, hx]; rfl
    have e2 : ([107, 101, 121] == (strB x).toList) = false := by rw [strB_toList, hx]; rfl
    have e3 : ([112, 97, 105, 114] == (strB x).toList) = false := by rw [strB_toList, hx]; rfl
    have e4 : ([115, 104, 97, 114, 101] == (strB x).toList) = false := by rw [strB_toList, hx]; rfl
    have e5 : ([115, 105, 103, 110] == (strB x).toList) = false := by rw [strB_toList, hx]; rfl
    have e6 : ([115, 101, 97, 108] == (strB x).toList) = false := by rw [strB_toList, hx]; rfl
    clear hx n0
    go_enter Tryd.func30, Tryd.ntmps30
    go_wp2
    have h0 : Rg.Blk (((w.alloc (.cells #[.string ⟨#[104, 97, 115, 104]⟩, .string ⟨#[112, 111, 105, 110, 116]⟩, .string ⟨#[107, 101, 121]⟩] 9)).alloc (.cells #[.string ⟨#[112, 97, 105, 114]⟩, .string ⟨#[115, 104, 97, 114, 101]⟩, .string ⟨#[115, 105, 103, 110]⟩, .string ⟨#[115, 101, 97, 108]⟩] 9)).alloc (.cells #[.slice (some ⟨w.heap.size, 0, none⟩) 3 3, .slice (some ⟨w.heap.size + 1, 0, none⟩) 4 4] 22)) w.heap.size 9 #[.string ⟨#[104, 97, 115, 104]⟩, .string ⟨#[112, 111, 105, 110, 116]⟩, .string ⟨#[107, 101, 121]⟩] := ((Rg.Blk.new w _ _).alloc _).alloc _
    have h1 : Rg.Blk (((w.alloc (.cells #[.string ⟨#[104, 97, 115, 104]⟩, .string ⟨#[112, 111, 105, 110, 116]⟩, .string ⟨#[107, 101, 121]⟩] 9)).alloc (.cells #[.string ⟨#[112, 97, 105, 114]⟩, .string ⟨#[115, 104, 97, 114, 101]⟩, .string ⟨#[115, 105, 103, 110]⟩, .string ⟨#[115, 101, 97, 108]⟩] 9)).alloc (.cells #[.slice (some ⟨w.heap.size, 0, none⟩) 3 3, .slice (some ⟨w.heap.size + 1, 0, none⟩) 4 4] 22)) (w.heap.size + 1) 9 #[.string ⟨#[112, 97, 105, 114]⟩, .string ⟨#[115, 104, 97, 114, 101]⟩, .string ⟨#[115, 105, 103, 110]⟩, .string ⟨#[115, 101, 97, 108]⟩] := (Rg.Blk.newAt (by simp) _ _).alloc _
    have h2 : Rg.Blk (((w.alloc (.cells #[.string ⟨#[104, 97, 115, 104]⟩, .string ⟨#[112, 111, 105, 110, 116]⟩, .string ⟨#[107, 101, 121]⟩] 9)).alloc (.cells #[.string ⟨#[112, 97, 105, 114]⟩, .string ⟨#[115, 104, 97, 114, 101]⟩, .string ⟨#[115, 105, 103, 110]⟩, .string ⟨#[115, 101, 97, 108]⟩] 9)).alloc (.cells #[.slice (some ⟨w.heap.size, 0, none⟩) 3 3, .slice (some ⟨w.heap.size + 1, 0, none⟩) 4 4] 22)) (w.heap.size + 1 + 1) 22 #[.slice (some ⟨w.heap.size, 0, none⟩) 3 3, .slice (some ⟨w.heap.size + 1, 0, none⟩) 4 4] := Rg.Blk.newAt (by simp) _ _
    have hb : Below w.heap.size w (((w.alloc (.cells #[.string ⟨#[104, 97, 115, 104]⟩, .string ⟨#[112, 111, 105, 110, 116]⟩, .string ⟨#[107, 101, 121]⟩] 9)).alloc (.cells #[.string ⟨#[112, 97, 105, 114]⟩, .string ⟨#[115, 104, 97, 114, 101]⟩, .string ⟨#[115, 105, 103, 110]⟩, .string ⟨#[115, 101, 97, 108]⟩] 9)).alloc (.cells #[.slice (some ⟨w.heap.size, 0, none⟩) 3 3, .slice (some ⟨w.heap.size + 1, 0, none⟩) 4 4] 22)) := (((Below.refl _ _).alloc (Nat.le_refl _) _).alloc (by simp) _).alloc (by simp; omega) _
    generalize ((w.alloc (.cells #[.string ⟨#[104, 97, 115, 104]⟩, .string ⟨#[112, 111, 105, 110, 116]⟩, .string ⟨#[107, 101, 121]⟩] 9)).alloc (.cells #[.string ⟨#[112, 97, 105, 114]⟩, .string ⟨#[115, 104, 97, 114, 101]⟩, .string ⟨#[115, 105, 103, 110]⟩, .string ⟨#[115, 101, 97, 108]⟩] 9)).alloc (.cells #[.slice (some ⟨w.heap.size, 0, none⟩) 3 3, .slice (some ⟨w.heap.size + 1, 0, none⟩) 4 4] 22) = X at *
    have HB := Lib.hid hb
    have c00 := h0.cell 0 (v := .string ⟨#[104, 97, 115, 104]⟩) rfl
    have c01 := h0.cell 1 (v := .string ⟨#[112, 111, 105, 110, 116]⟩) rfl
    have c02 := h0.cell 2 (v := .string ⟨#[107, 101, 121]⟩) rfl
    have c10 := h1.cell 0 (v := .string ⟨#[112, 97, 105, 114]⟩) rfl
    have c11 := h1.cell 1 (v := .string ⟨#[115, 104, 97, 114, 101]⟩) rfl
    have c12 := h1.cell 2 (v := .string ⟨#[115, 105, 103, 110]⟩) rfl
    have c13 := h1.cell 3 (v := .string ⟨#[115, 101, 97, 108]⟩) rfl
    have c20 := h2.cell 0 (v := .slice (some ⟨w.heap.size, 0, none⟩) 3 3) rfl
    have c21 := h2.cell 1 (v := .slice (some ⟨w.heap.size + 1, 0, none⟩) 4 4) rfl
    clear hb h0 h1 h2
    refine wp_loop_rounds 3 ?_
    rw [rounds_succ]
    go_wp2
    refine wp_loop_rounds 4 ?_
    rw [rounds_succ]
    go_wp2
    go_ret
    exact ⟨by rw [HC.out]; rfl, HB.out⟩
  · have z := True.intro
    clear z
    by_cases n1 : x = word 1
    · have hx := n1
      have HC := Lib.hid (show cnt x = 1 by rw [hx]; decide)
      have e0 : ([104, 97, 115, 104] == (strB x).toList) = false := by rw [strB_toList, hx]; rfl
      have e1 : ([112, 111, 105, 110, 116] == (strB x).toList) = true := by rw [strB_toList, hx]; rfl
      have e2 : ([107, 101, 121] == (strB x).toList) = false := by rw [strB_toList, hx]; rfl
      have e3 : ([112, 97, 105, 114] == (strB x).toList) = false := by rw [strB_toList, hx]; rfl
      have e4 : ([115, 104, 97, 114, 101] == (strB x).toList) = false := by rw [strB_toList, hx]; rfl
      have e5 : ([115, 105, 103, 110] == (strB x).toList) = false := by rw [strB_toList, hx]; rfl
      have e6 : ([115, 101, 97, 108] == (strB x).toList) = false := by rw [strB_toList, hx]; rfl
      clear hx n0 n1
      go_enter Tryd.func30, Tryd.ntmps30
      go_wp2
      have h0 : Rg.Blk (((w.alloc (.cells #[.string ⟨#[104, 97, 115, 104]⟩, .string ⟨#[112, 111, 105, 110, 116]⟩, .string ⟨#[107, 101, 121]⟩] 9)).alloc (.cells #[.string ⟨#[112, 97, 105, 114]⟩, .string ⟨#[115, 104, 97, 114, 101]⟩, .string ⟨#[115, 105, 103, 110]⟩, .string ⟨#[115, 101, 97, 108]⟩] 9)).alloc (.cells #[.slice (some ⟨w.heap.size, 0, none⟩) 3 3, .slice (some ⟨w.heap.size + 1, 0, none⟩) 4 4] 22)) w.heap.size 9 #[.string ⟨#[104, 97, 115, 104]⟩, .string ⟨#[112, 111, 105, 110, 116]⟩, .string ⟨#[107, 101, 121]⟩] := ((Rg.Blk.new w _ _).alloc _).alloc _
      have h1 : Rg.Blk (((w.alloc (.cells #[.string ⟨#[104, 97, 115, 104]⟩, .string ⟨#[112, 111, 105, 110, 116]⟩, .string ⟨#[107, 101, 121]⟩] 9)).alloc (.cells #[.string ⟨#[112, 97, 105, 114]⟩, .string ⟨#[115, 104, 97, 114, 101]⟩, .string ⟨#[115, 105, 103, 110]⟩, .string ⟨#[115, 101, 97, 108]⟩] 9)).alloc (.cells #[.slice (some ⟨w.heap.size, 0, none⟩) 3 3, .slice (some ⟨w.heap.size + 1, 0, none⟩) 4 4] 22)) (w.heap.size + 1) 9 #[.string ⟨#[112, 97, 105, 114]⟩, .string ⟨#[115, 104, 97, 114, 101]⟩, .string ⟨#[115, 105, 103, 110]⟩, .string ⟨#[115, 101, 97, 108]⟩] := (Rg.Blk.newAt (by simp) _ _).alloc _
      have h2 : Rg.Blk (((w.alloc (.cells #[.string ⟨#[104, 97, 115, 104]⟩, .string ⟨#[112, 111, 105, 110, 116]⟩, .string ⟨#[107, 101, 121]⟩] 9)).alloc (.cells #[.string ⟨#[112, 97, 105, 114]⟩, .string ⟨#[115, 104, 97, 114, 101]⟩, .string ⟨#[115, 105, 103, 110]⟩, .string ⟨#[115, 101, 97, 108]⟩] 9)).alloc (.cells #[.slice (some ⟨w.heap.size, 0, none⟩) 3 3, .slice (some ⟨w.heap.size + 1, 0, none⟩) 4 4] 22)) (w.heap.size + 1 + 1) 22 #[.slice (some ⟨w.heap.size, 0, none⟩) 3 3, .slice (some ⟨w.heap.size + 1, 0, none⟩) 4 4] := Rg.Blk.newAt (by simp) _ _
      have hb : Below w.heap.size w (((w.alloc (.cells #[.string ⟨#[104, 97, 115, 104]⟩, .string ⟨#[112, 111, 105, 110, 116]⟩, .string ⟨#[107, 101, 121]⟩] 9)).alloc (.cells #[.string ⟨#[112, 97, 105, 114]⟩, .string ⟨#[115, 104, 97, 114, 101]⟩, .string ⟨#[115, 105, 103, 110]⟩, .string ⟨#[115, 101, 97, 108]⟩] 9)).alloc (.cells #[.slice (some ⟨w.heap.size, 0, none⟩) 3 3, .slice (some ⟨w.heap.size + 1, 0, none⟩) 4 4] 22)) := (((Below.refl _ _).alloc (Nat.le_refl _) _).alloc (by simp) _).alloc (by simp; omega) _
      generalize ((w.alloc (.cells #[.string ⟨#[104, 97, 115, 104]⟩, .string ⟨#[112, 111, 105, 110, 116]⟩, .string ⟨#[107, 101, 121]⟩] 9)).alloc (.cells #[.string ⟨#[112, 97, 105, 114]⟩, .string ⟨#[115, 104, 97, 114, 101]⟩, .string ⟨#[115, 105, 103, 110]⟩, .string ⟨#[115, 101, 97, 108]⟩] 9)).alloc (.cells #[.slice (some ⟨w.heap.size, 0, none⟩) 3 3, .slice (some ⟨w.heap.size + 1, 0, none⟩) 4 4] 22) = X at *
      have HB := Lib.hid hb
      have c00 := h0.cell 0 (v := .string ⟨#[104, 97, 115, 104]⟩) rfl
      have c01 := h0.cell 1 (v := .string ⟨#[112, 111, 105, 110, 116]⟩) rfl
      have c02 := h0.cell 2 (v := .string ⟨#[107, 101, 121]⟩) rfl
      have c10 := h1.cell 0 (v := .string ⟨#[112, 97, 105, 114]⟩) rfl
      have c11 := h1.cell 1 (v := .string ⟨#[115, 104, 97, 114, 101]⟩) rfl
      have c12 := h1.cell 2 (v := .string ⟨#[115, 105, 103, 110]⟩) rfl
      have c13 := h1.cell 3 (v := .string ⟨#[115, 101, 97, 108]⟩) rfl
      have c20 := h2.cell 0 (v := .slice (some ⟨w.heap.size, 0, none⟩) 3 3) rfl
      have c21 := h2.cell 1 (v := .slice (some ⟨w.heap.size + 1, 0, none⟩) 4 4) rfl
      clear hb h0 h1 h2
      refine wp_loop_rounds 3 ?_
      rw [rounds_succ]
      go_wp2
      refine wp_loop_rounds 4 ?_
      rw [rounds_succ]
      go_wp2
      rw [rounds_succ]
      go_wp2
      go_ret
      exact ⟨by rw [HC.out]; rfl, HB.out⟩
    · have z := True.intro
      clear z
      by_cases n2 : x = word 2
      · have hx := n2
        have HC := Lib.hid (show cnt x = 1 by rw [hx]; decide)
        have e0 : ([104, 97, 115, 104] == (strB x).toList) = false := by rw [strB_toList, hx]; rfl
        have e1 : ([112, 111, 105, 110, 116] == (strB x).toList) = false := by rw [strB_toList, hx]; rfl
        have e2 : ([107, 101, 121] == (strB x).toList) = true := by rw [strB_toList, hx]; rfl
        have e3 : ([112, 97, 105, 114] == (strB x).toList) = false := by rw [strB_toList, hx]; rfl
        have e4 : ([115, 104, 97, 114, 101] == (strB x).toList) = false := by rw [strB_toList, hx]; rfl
        have e5 : ([115, 105, 103, 110] == (strB x).toList) = false := by rw [strB_toList, hx]; rfl
        have e6 : ([115, 101, 97, 108] == (strB x).toList) = false := by rw [strB_toList, hx]; rfl
        clear hx n0 n1 n2
        go_enter Tryd.func30, Tryd.ntmps30
        go_wp2
        have h0 : Rg.Blk (((w.alloc (.cells #[.string ⟨#[104, 97, 115, 104]⟩, .string ⟨#[112, 111, 105, 110, 116]⟩, .string ⟨#[107, 101, 121]⟩] 9)).alloc (.cells #[.string ⟨#[112, 97, 105, 114]⟩, .string ⟨#[115, 104, 97, 114, 101]⟩, .string ⟨#[115, 105, 103, 110]⟩, .string ⟨#[115, 101, 97, 108]⟩] 9)).alloc (.cells #[.slice (some ⟨w.heap.size, 0, none⟩) 3 3, .slice (some ⟨w.heap.size + 1, 0, none⟩) 4 4] 22)) w.heap.size 9 #[.string ⟨#[104, 97, 115, 104]⟩, .string ⟨#[112, 111, 105, 110, 116]⟩, .string ⟨#[107, 101, 121]⟩] := ((Rg.Blk.new w _ _).alloc _).alloc _
        have h1 : Rg.Blk (((w.alloc (.cells #[.string ⟨#[104, 97, 115, 104]⟩, .string ⟨#[112, 111, 105, 110, 116]⟩, .string ⟨#[107, 101, 121]⟩] 9)).alloc (.cells #[.string ⟨#[112, 97, 105, 114]⟩, .string ⟨#[115, 104, 97, 114, 101]⟩, .string ⟨#[115, 105, 103, 110]⟩, .string ⟨#[115, 101, 97, 108]⟩] 9)).alloc (.cells #[.slice (some ⟨w.heap.size, 0, none⟩) 3 3, .slice (some ⟨w.heap.size + 1, 0, none⟩) 4 4] 22)) (w.heap.size + 1) 9 #[.string ⟨#[112, 97, 105, 114]⟩, .string ⟨#[115, 104, 97, 114, 101]⟩, .string ⟨#[115, 105, 103, 110]⟩, .string ⟨#[115, 101, 97, 108]⟩] := (Rg.Blk.newAt (by simp) _ _).alloc _
        have h2 : Rg.Blk (((w.alloc (.cells #[.string ⟨#[104, 97, 115, 104]⟩, .string ⟨#[112, 111, 105, 110, 116]⟩, .string ⟨#[107, 101, 121]⟩] 9)).alloc (.cells #[.string ⟨#[112, 97, 105, 114]⟩, .string ⟨#[115, 104, 97, 114, 101]⟩, .string ⟨#[115, 105, 103, 110]⟩, .string ⟨#[115, 101, 97, 108]⟩] 9)).alloc (.cells #[.slice (some ⟨w.heap.size, 0, none⟩) 3 3, .slice (some ⟨w.heap.size + 1, 0, none⟩) 4 4] 22)) (w.heap.size + 1 + 1) 22 #[.slice (some ⟨w.heap.size, 0, none⟩) 3 3, .slice (some ⟨w.heap.size + 1, 0, none⟩) 4 4] := Rg.Blk.newAt (by simp) _ _
        have hb : Below w.heap.size w (((w.alloc (.cells #[.string ⟨#[104, 97, 115, 104]⟩, .string ⟨#[112, 111, 105, 110, 116]⟩, .string ⟨#[107, 101, 121]⟩] 9)).alloc (.cells #[.string ⟨#[112, 97, 105, 114]⟩, .string ⟨#[115, 104, 97, 114, 101]⟩, .string ⟨#[115, 105, 103, 110]⟩, .string ⟨#[115, 101, 97, 108]⟩] 9)).alloc (.cells #[.slice (some ⟨w.heap.size, 0, none⟩) 3 3, .slice (some ⟨w.heap.size + 1, 0, none⟩) 4 4] 22)) := (((Below.refl _ _).alloc (Nat.le_refl _) _).alloc (by simp) _).alloc (by simp; omega) _
        generalize ((w.alloc (.cells #[.string ⟨#[104, 97, 115, 104]⟩, .string ⟨#[112, 111, 105, 110, 116]⟩, .string ⟨#[107, 101, 121]⟩] 9)).alloc (.cells #[.string ⟨#[112, 97, 105, 114]⟩, .string ⟨#[115, 104, 97, 114, 101]⟩, .string ⟨#[115, 105, 103, 110]⟩, .string ⟨#[115, 101, 97, 108]⟩] 9)).alloc (.cells #[.slice (some ⟨w.heap.size, 0, none⟩) 3 3, .slice (some ⟨w.heap.size + 1, 0, none⟩) 4 4] 22) = X at *
        have HB := Lib.hid hb
        have c00 := h0.cell 0 (v := .string ⟨#[104, 97, 115, 104]⟩) rfl
        have c01 := h0.cell 1 (v := .string ⟨#[112, 111, 105, 110, 116]⟩) rfl
        have c02 := h0.cell 2 (v := .string ⟨#[107, 101, 121]⟩) rfl
        have c10 := h1.cell 0 (v := .string ⟨#[112, 97, 105, 114]⟩) rfl
        have c11 := h1.cell 1 (v := .string ⟨#[115, 104, 97, 114, 101]⟩) rfl
        have c12 := h1.cell 2 (v := .string ⟨#[115, 105, 103, 110]⟩) rfl
        have c13 := h1.cell 3 (v := .string ⟨#[115, 101, 97, 108]⟩) rfl
        have c20 := h2.cell 0 (v := .slice (some ⟨w.heap.size, 0, none⟩) 3 3) rfl
        have c21 := h2.cell 1 (v := .slice (some ⟨w.heap.size + 1, 0, none⟩) 4 4) rfl
        clear hb h0 h1 h2
        refine wp_loop_rounds 3 ?_
        rw [rounds_succ]
        go_wp2
        refine wp_loop_rounds 4 ?_
        rw [rounds_succ]
        go_wp2
        rw [rounds_succ]
        go_wp2
        rw [rounds_succ]
        go_wp2
        go_ret
        exact ⟨by rw [HC.out]; rfl, HB.out⟩
      · have z := True.intro
        clear z
        by_cases n3 : x = word 3
        · have hx := n3
          have HC := Lib.hid (show cnt x = 2 by rw [hx]; decide)
          have e0 : ([104, 97, 115, 104] == (strB x).toList) = false := by rw [strB_toList, hx]; rfl
          have e1 : ([112, 111, 105, 110, 116] == (strB x).toList) = false := by rw [strB_toList, hx]; rfl
          have e2 : ([107, 101, 121] == (strB x).toList) = false := by rw [strB_toList, hx]; rfl
          have e3 : ([112, 97, 105, 114] == (strB x).toList) = true := by rw [strB_toList, hx]; rfl
          have e4 : ([115, 104, 97, 114, 101] == (strB x).toList) = false := by rw [strB_toList, hx]; rfl
          have e5 : ([115, 105, 103, 110] == (strB x).toList) = false := by rw [strB_toList, hx]; rfl
          have e6 : ([115, 101, 97, 108] == (strB x).toList) = false := by rw [strB_toList, hx]; rfl
          clear hx n0 n1 n2 n3
          go_enter Tryd.func30, Tryd.ntmps30
          go_wp2
          have h0 : Rg.Blk (((w.alloc (.cells #[.string ⟨#[104, 97, 115, 104]⟩, .string ⟨#[112, 111, 105, 110, 116]⟩, .string ⟨#[107, 101, 121]⟩] 9)).alloc (.cells #[.string ⟨#[112, 97, 105, 114]⟩, .string ⟨#[115, 104, 97, 114, 101]⟩, .string ⟨#[115, 105, 103, 110]⟩, .string ⟨#[115, 101, 97, 108]⟩] 9)).alloc (.cells #[.slice (some ⟨w.heap.size, 0, none⟩) 3 3, .slice (some ⟨w.heap.size + 1, 0, none⟩) 4 4] 22)) w.heap.size 9 #[.string ⟨#[104, 97, 115, 104]⟩, .string ⟨#[112, 111, 105, 110, 116]⟩, .string ⟨#[107, 101, 121]⟩] := ((Rg.Blk.new w _ _).alloc _).alloc _
          have h1 : Rg.Blk (((w.alloc (.cells #[.string ⟨#[104, 97, 115, 104]⟩, .string ⟨#[112, 111, 105, 110, 116]⟩, .string ⟨#[107, 101, 121]⟩] 9)).alloc (.cells #[.string ⟨#[112, 97, 105, 114]⟩, .string ⟨#[115, 104, 97, 114, 101]⟩, .string ⟨#[115, 105, 103, 110]⟩, .string ⟨#[115, 101, 97, 108]⟩] 9)).alloc (.cells #[.slice (some ⟨w.heap.size, 0, none⟩) 3 3, .slice (some ⟨w.heap.size + 1, 0, none⟩) 4 4] 22)) (w.heap.size + 1) 9 #[.string ⟨#[112, 97, 105, 114]⟩, .string ⟨#[115, 104, 97, 114, 101]⟩, .string ⟨#[115, 105, 103, 110]⟩, .string ⟨#[115, 101, 97, 108]⟩] := (Rg.Blk.newAt (by simp) _ _).alloc _
          have h2 : Rg.Blk (((w.alloc (.cells #[.string ⟨#[104, 97, 115, 104]⟩, .string ⟨#[112, 111, 105, 110, 116]⟩, .string ⟨#[107, 101, 121]⟩] 9)).alloc (.cells #[.string ⟨#[112, 97, 105, 114]⟩, .string ⟨#[115, 104, 97, 114, 101]⟩, .string ⟨#[115, 105, 103, 110]⟩, .string ⟨#[115, 101, 97, 108]⟩] 9)).alloc (.cells #[.slice (some ⟨w.heap.size, 0, none⟩) 3 3, .slice (some ⟨w.heap.size + 1, 0, none⟩) 4 4] 22)) (w.heap.size + 1 + 1) 22 #[.slice (some ⟨w.heap.size, 0, none⟩) 3 3, .slice (some ⟨w.heap.size + 1, 0, none⟩) 4 4] := Rg.Blk.newAt (by simp) _ _
          have hb : Below w.heap.size w (((w.alloc (.cells #[.string ⟨#[104, 97, 115, 104]⟩, .string ⟨#[112, 111, 105, 110, 116]⟩, .string ⟨#[107, 101, 121]⟩] 9)).alloc (.cells #[.string ⟨#[112, 97, 105, 114]⟩, .string ⟨#[115, 104, 97, 114, 101]⟩, .string ⟨#[115, 105, 103, 110]⟩, .string ⟨#[115, 101, 97, 108]⟩] 9)).alloc (.cells #[.slice (some ⟨w.heap.size, 0, none⟩) 3 3, .slice (some ⟨w.heap.size + 1, 0, none⟩) 4 4] 22)) := (((Below.refl _ _).alloc (Nat.le_refl _) _).alloc (by simp) _).alloc (by simp; omega) _
          generalize ((w.alloc (.cells #[.string ⟨#[104, 97, 115, 104]⟩, .string ⟨#[112, 111, 105, 110, 116]⟩, .string ⟨#[107, 101, 121]⟩] 9)).alloc (.cells #[.string ⟨#[112, 97, 105, 114]⟩, .string ⟨#[115, 104, 97, 114, 101]⟩, .string ⟨#[115, 105, 103, 110]⟩, .string ⟨#[115, 101, 97, 108]⟩] 9)).alloc (.cells #[.slice (some ⟨w.heap.size, 0, none⟩) 3 3, .slice (some ⟨w.heap.size + 1, 0, none⟩) 4 4] 22) = X at *
          have HB := Lib.hid hb
          have c00 := h0.cell 0 (v := .string ⟨#[104, 97, 115, 104]⟩) rfl
          have c01 := h0.cell 1 (v := .string ⟨#[112, 111, 105, 110, 116]⟩) rfl
          have c02 := h0.cell 2 (v := .string ⟨#[107, 101, 121]⟩) rfl
          have c10 := h1.cell 0 (v := .string ⟨#[112, 97, 105, 114]⟩) rfl
          have c11 := h1.cell 1 (v := .string ⟨#[115, 104, 97, 114, 101]⟩) rfl
          have c12 := h1.cell 2 (v := .string ⟨#[115, 105, 103, 110]⟩) rfl
          have c13 := h1.cell 3 (v := .string ⟨#[115, 101, 97, 108]⟩) rfl
          have c20 := h2.cell 0 (v := .slice (some ⟨w.heap.size, 0, none⟩) 3 3) rfl
          have c21 := h2.cell 1 (v := .slice (some ⟨w.heap.size + 1, 0, none⟩) 4 4) rfl
          clear hb h0 h1 h2
          refine wp_loop_rounds 3 ?_
          rw [rounds_succ]
          go_wp2
          refine wp_loop_rounds 4 ?_
          rw [rounds_succ]
          go_wp2
          rw [rounds_succ]
          go_wp2
          rw [rounds_succ]
          go_wp2
          rw [rounds_succ]
          go_wp2
          rw [rounds_succ]
          go_wp2
          refine wp_loop_rounds 5 ?_
          rw [rounds_succ]
          go_wp2
          go_ret
          exact ⟨by rw [HC.out]; rfl, HB.out⟩
        · have z := True.intro
          clear z
          by_cases n4 : x = word 4
          · have hx := n4
            have HC := Lib.hid (show cnt x = 2 by rw [hx]; decide)
            have e0 : ([104, 97, 115, 104] == (strB x).toList) = false := by rw [strB_toList, hx]; rfl
            have e1 : ([112, 111, 105, 110, 116] == (strB x).toList) = false := by rw [strB_toList, hx]; rfl
            have e2 : ([107, 101, 121] == (strB x).toList) = false := by rw [strB_toList, hx]; rfl
            have e3 : ([112, 97, 105, 114] == (strB x).toList) = false := by rw [strB_toList, hx]; rfl
            have e4 : ([115, 104, 97, 114, 101] == (strB x).toList) = true := by rw [strB_toList, hx]; rfl
            have e5 : ([115, 105, 103, 110] == (strB x).toList) = false := by rw [strB_toList, hx]; rfl
            have e6 : ([115, 101, 97, 108] == (strB x).toList) = false := by rw [strB_toList, hx]; rfl
            clear hx n0 n1 n2 n3 n4
            go_enter Tryd.func30, Tryd.ntmps30
            go_wp2
            have h0 : Rg.Blk (((w.alloc (.cells #[.string ⟨#[104, 97, 115, 104]⟩, .string ⟨#[112, 111, 105, 110, 116]⟩, .string ⟨#[107, 101, 121]⟩] 9)).alloc (.cells #[.string ⟨#[112, 97, 105, 114]⟩, .string ⟨#[115, 104, 97, 114, 101]⟩, .string ⟨#[115, 105, 103, 110]⟩, .string ⟨#[115, 101, 97, 108]⟩] 9)).alloc (.cells #[.slice (some ⟨w.heap.size, 0, none⟩) 3 3, .slice (some ⟨w.heap.size + 1, 0, none⟩) 4 4] 22)) w.heap.size 9 #[.string ⟨#[104, 97, 115, 104]⟩, .string ⟨#[112, 111, 105, 110, 116]⟩, .string ⟨#[107, 101, 121]⟩] := ((Rg.Blk.new w _ _).alloc _).alloc _
            have h1 : Rg.Blk (((w.alloc (.cells #[.string ⟨#[104, 97, 115, 104]⟩, .string ⟨#[112, 111, 105, 110, 116]⟩, .string ⟨#[107, 101, 121]⟩] 9)).alloc (.cells #[.string ⟨#[112, 97, 105, 114]⟩, .string ⟨#[115, 104, 97, 114, 101]⟩, .string ⟨#[115, 105, 103, 110]⟩, .string ⟨#[115, 101, 97, 108]⟩] 9)).alloc (.cells #[.slice (some ⟨w.heap.size, 0, none⟩) 3 3, .slice (some ⟨w.heap.size + 1, 0, none⟩) 4 4] 22)) (w.heap.size + 1) 9 #[.string ⟨#[112, 97, 105, 114]⟩, .string ⟨#[115, 104, 97, 114, 101]⟩, .string ⟨#[115, 105, 103, 110]⟩, .string ⟨#[115, 101, 97, 108]⟩] := (Rg.Blk.newAt (by simp) _ _).alloc _
            have h2 : Rg.Blk (((w.alloc (.cells #[.string ⟨#[104, 97, 115, 104]⟩, .string ⟨#[112, 111, 105, 110, 116]⟩, .string ⟨#[107, 101, 121]⟩] 9)).alloc (.cells #[.string ⟨#[112, 97, 105, 114]⟩, .string ⟨#[115, 104, 97, 114, 101]⟩, .string ⟨#[115, 105, 103, 110]⟩, .string ⟨#[115, 101, 97, 108]⟩] 9)).alloc (.cells #[.slice (some ⟨w.heap.size, 0, none⟩) 3 3, .slice (some ⟨w.heap.size + 1, 0, none⟩) 4 4] 22)) (w.heap.size + 1 + 1) 22 #[.slice (some ⟨w.heap.size, 0, none⟩) 3 3, .slice (some ⟨w.heap.size + 1, 0, none⟩) 4 4] := Rg.Blk.newAt (by simp) _ _
            have hb : Below w.heap.size w (((w.alloc (.cells #[.string ⟨#[104, 97, 115, 104]⟩, .string ⟨#[112, 111, 105, 110, 116]⟩, .string ⟨#[107, 101, 121]⟩] 9)).alloc (.cells #[.string ⟨#[112, 97, 105, 114]⟩, .string ⟨#[115, 104, 97, 114, 101]⟩, .string ⟨#[115, 105, 103, 110]⟩, .string ⟨#[115, 101, 97, 108]⟩] 9)).alloc (.cells #[.slice (some ⟨w.heap.size, 0, none⟩) 3 3, .slice (some ⟨w.heap.size + 1, 0, none⟩) 4 4] 22)) := (((Below.refl _ _).alloc (Nat.le_refl _) _).alloc (by simp) _).alloc (by simp; omega) _
            generalize ((w.alloc (.cells #[.string ⟨#[104, 97, 115, 104]⟩, .string ⟨#[112, 111, 105, 110, 116]⟩, .string ⟨#[107, 101, 121]⟩] 9)).alloc (.cells #[.string ⟨#[112, 97, 105, 114]⟩, .string ⟨#[115, 104, 97, 114, 101]⟩, .string ⟨#[115, 105, 103, 110]⟩, .string ⟨#[115, 101, 97, 108]⟩] 9)).alloc (.cells #[.slice (some ⟨w.heap.size, 0, none⟩) 3 3, .slice (some ⟨w.heap.size + 1, 0, none⟩) 4 4] 22) = X at *
            have HB := Lib.hid hb
            have c00 := h0.cell 0 (v := .string ⟨#[104, 97, 115, 104]⟩) rfl
            have c01 := h0.cell 1 (v := .string ⟨#[112, 111, 105, 110, 116]⟩) rfl
            have c02 := h0.cell 2 (v := .string ⟨#[107, 101, 121]⟩) rfl
            have c10 := h1.cell 0 (v := .string ⟨#[112, 97, 105, 114]⟩) rfl
            have c11 := h1.cell 1 (v := .string ⟨#[115, 104, 97, 114, 101]⟩) rfl
            have c12 := h1.cell 2 (v := .string ⟨#[115, 105, 103, 110]⟩) rfl
            have c13 := h1.cell 3 (v := .string ⟨#[115, 101, 97, 108]⟩) rfl
            have c20 := h2.cell 0 (v := .slice (some ⟨w.heap.size, 0, none⟩) 3 3) rfl
            have c21 := h2.cell 1 (v := .slice (some ⟨w.heap.size + 1, 0, none⟩) 4 4) rfl
            clear hb h0 h1 h2
            refine wp_loop_rounds 3 ?_
            rw [rounds_succ]
            go_wp2
            refine wp_loop_rounds 4 ?_
            rw [rounds_succ]
            go_wp2
            rw [rounds_succ]
            go_wp2
            rw [rounds_succ]
            go_wp2
            rw [rounds_succ]
            go_wp2
            rw [rounds_succ]
            go_wp2
            refine wp_loop_rounds 5 ?_
            rw [rounds_succ]
            go_wp2
            rw [rounds_succ]
            go_wp2
            go_ret
            exact ⟨by rw [HC.out]; rfl, HB.out⟩
          · have z := True.intro
            clear z
            by_cases n5 : x = word 5
            · have hx := n5
              have HC := Lib.hid (show cnt x = 2 by rw [hx]; decide)
              have e0 : ([104, 97, 115, 104] == (strB x).toList) = false := by rw [strB_toList, hx]; rfl
              have e1 : ([112, 111, 105, 110, 116] == (strB x).toList) = false := by rw [strB_toList, hx]; rfl
              have e2 : ([107, 101, 121] == (strB x).toList) = false := by rw [strB_toList, hx]; rfl
              have e3 : ([112, 97, 105, 114] == (strB x).toList) = false := by rw [strB_toList, hx]; rfl
              have e4 : ([115, 104, 97, 114, 101] == (strB x).toList) = false := by rw [strB_toList, hx]; rfl
              have e5 : ([115, 105, 103, 110] == (strB x).toList) = true := by rw [strB_toList, hx]; rfl
              have e6 : ([115, 101, 97, 108] == (strB x).toList) = false := by rw [strB_toList, hx]; rfl
              clear hx n0 n1 n2 n3 n4 n5
              go_enter Tryd.func30, Tryd.ntmps30
              go_wp2
              have h0 : Rg.Blk (((w.alloc (.cells #[.string ⟨#[104, 97, 115, 104]⟩, .string ⟨#[112, 111, 105, 110, 116]⟩, .string ⟨#[107, 101, 121]⟩] 9)).alloc (.cells #[.string ⟨#[112, 97, 105, 114]⟩, .string ⟨#[115, 104, 97, 114, 101]⟩, .string ⟨#[115, 105, 103, 110]⟩, .string ⟨#[115, 101, 97, 108]⟩] 9)).alloc (.cells #[.slice (some ⟨w.heap.size, 0, none⟩) 3 3, .slice (some ⟨w.heap.size + 1, 0, none⟩) 4 4] 22)) w.heap.size 9 #[.string ⟨#[104, 97, 115, 104]⟩, .string ⟨#[112, 111, 105, 110, 116]⟩, .string ⟨#[107, 101, 121]⟩] := ((Rg.Blk.new w _ _).alloc _).alloc _
              have h1 : Rg.Blk (((w.alloc (.cells #[.string ⟨#[104, 97, 115, 104]⟩, .string ⟨#[112, 111, 105, 110, 116]⟩, .string ⟨#[107, 101, 121]⟩] 9)).alloc (.cells #[.string ⟨#[112, 97, 105, 114]⟩, .string ⟨#[115, 104, 97, 114, 101]⟩, .string ⟨#[115, 105, 103, 110]⟩, .string ⟨#[115, 101, 97, 108]⟩] 9)).alloc (.cells #[.slice (some ⟨w.heap.size, 0, none⟩) 3 3, .slice (some ⟨w.heap.size + 1, 0, none⟩) 4 4] 22)) (w.heap.size + 1) 9 #[.string ⟨#[112, 97, 105, 114]⟩, .string ⟨#[115, 104, 97, 114, 101]⟩, .string ⟨#[115, 105, 103, 110]⟩, .string ⟨#[115, 101, 97, 108]⟩] := (Rg.Blk.newAt (by simp) _ _).alloc _
              have h2 : Rg.Blk (((w.alloc (.cells #[.string ⟨#[104, 97, 115, 104]⟩, .string ⟨#[112, 111, 105, 110, 116]⟩, .string ⟨#[107, 101, 121]⟩] 9)).alloc (.cells #[.string ⟨#[112, 97, 105, 114]⟩, .string ⟨#[115, 104, 97, 114, 101]⟩, .string ⟨#[115, 105, 103, 110]⟩, .string ⟨#[115, 101, 97, 108]⟩] 9)).alloc (.cells #[.slice (some ⟨w.heap.size, 0, none⟩) 3 3, .slice (some ⟨w.heap.size + 1, 0, none⟩) 4 4] 22)) (w.heap.size + 1 + 1) 22 #[.slice (some ⟨w.heap.size, 0, none⟩) 3 3, .slice (some ⟨w.heap.size + 1, 0, none⟩) 4 4] := Rg.Blk.newAt (by simp) _ _
              have hb : Below w.heap.size w (((w.alloc (.cells #[.string ⟨#[104, 97, 115, 104]⟩, .string ⟨#[112, 111, 105, 110, 116]⟩, .string ⟨#[107, 101, 121]⟩] 9)).alloc (.cells #[.string ⟨#[112, 97, 105, 114]⟩, .string ⟨#[115, 104, 97, 114, 101]⟩, .string ⟨#[115, 105, 103, 110]⟩, .string ⟨#[115, 101, 97, 108]⟩] 9)).alloc (.cells #[.slice (some ⟨w.heap.size, 0, none⟩) 3 3, .slice (some ⟨w.heap.size + 1, 0, none⟩) 4 4] 22)) := (((Below.refl _ _).alloc (Nat.le_refl _) _).alloc (by simp) _).alloc (by simp; omega) _
              generalize ((w.alloc (.cells #[.string ⟨#[104, 97, 115, 104]⟩, .string ⟨#[112, 111, 105, 110, 116]⟩, .string ⟨#[107, 101, 121]⟩] 9)).alloc (.cells #[.string ⟨#[112, 97, 105, 114]⟩, .string ⟨#[115, 104, 97, 114, 101]⟩, .string ⟨#[115, 105, 103, 110]⟩, .string ⟨#[115, 101, 97, 108]⟩] 9)).alloc (.cells #[.slice (some ⟨w.heap.size, 0, none⟩) 3 3, .slice (some ⟨w.heap.size + 1, 0, none⟩) 4 4] 22) = X at *
              have HB := Lib.hid hb
              have c00 := h0.cell 0 (v := .string ⟨#[104, 97, 115, 104]⟩) rfl
              have c01 := h0.cell 1 (v := .string ⟨#[112, 111, 105, 110, 116]⟩) rfl
              have c02 := h0.cell 2 (v := .string ⟨#[107, 101, 121]⟩) rfl
              have c10 := h1.cell 0 (v := .string ⟨#[112, 97, 105, 114]⟩) rfl
              have c11 := h1.cell 1 (v := .string ⟨#[115, 104, 97, 114, 101]⟩) rfl
              have c12 := h1.cell 2 (v := .string ⟨#[115, 105, 103, 110]⟩) rfl
              have c13 := h1.cell 3 (v := .string ⟨#[115, 101, 97, 108]⟩) rfl
              have c20 := h2.cell 0 (v := .slice (some ⟨w.heap.size, 0, none⟩) 3 3) rfl
              have c21 := h2.cell 1 (v := .slice (some ⟨w.heap.size + 1, 0, none⟩) 4 4) rfl
              clear hb h0 h1 h2
              refine wp_loop_rounds 3 ?_
              rw [rounds_succ]
              go_wp2
              refine wp_loop_rounds 4 ?_
              rw [rounds_succ]
              go_wp2
              rw [rounds_succ]
              go_wp2
              rw [rounds_succ]
              go_wp2
              rw [rounds_succ]
              go_wp2
              rw [rounds_succ]
              go_wp2
              refine wp_loop_rounds 5 ?_
              rw [rounds_succ]
              go_wp2
              rw [rounds_succ]
              go_wp2
              rw [rounds_succ]
              go_wp2
              go_ret
              exact ⟨by rw [HC.out]; rfl, HB.out⟩
            · have z := True.intro
              clear z
              by_cases n6 : x = word 6
              · have hx := n6
                have HC := Lib.hid (show cnt x = 2 by rw [hx]; decide)
                have e0 : ([104, 97, 115, 104] == (strB x).toList) = false := by rw [strB_toList, hx]; rfl
                have e1 : ([112, 111, 105, 110, 116] == (strB x).toList) = false := by rw [strB_toList, hx]; rfl
                have e2 : ([107, 101, 121] == (strB x).toList) = false := by rw [strB_toList, hx]; rfl
                have e3 : ([112, 97, 105, 114] == (strB x).toList) = false := by rw [strB_toList, hx]; rfl
                have e4 : ([115, 104, 97, 114, 101] == (strB x).toList) = false := by rw [strB_toList, hx]; rfl
                have e5 : ([115, 105, 103, 110] == (strB x).toList) = false := by rw [strB_toList, hx]; rfl
                have e6 : ([115, 101, 97, 108] == (strB x).toList) = true := by rw [strB_toList, hx]; rfl
                clear hx n0 n1 n2 n3 n4 n5 n6
                go_enter Tryd.func30, Tryd.ntmps30
                go_wp2
                have h0 : Rg.Blk (((w.alloc (.cells #[.string ⟨#[104, 97, 115, 104]⟩, .string ⟨#[112, 111, 105, 110, 116]⟩, .string ⟨#[107, 101, 121]⟩] 9)).alloc (.cells #[.string ⟨#[112, 97, 105, 114]⟩, .string ⟨#[115, 104, 97, 114, 101]⟩, .string ⟨#[115, 105, 103, 110]⟩, .string ⟨#[115, 101, 97, 108]⟩] 9)).alloc (.cells #[.slice (some ⟨w.heap.size, 0, none⟩) 3 3, .slice (some ⟨w.heap.size + 1, 0, none⟩) 4 4] 22)) w.heap.size 9 #[.string ⟨#[104, 97, 115, 104]⟩, .string ⟨#[112, 111, 105, 110, 116]⟩, .string ⟨#[107, 101, 121]⟩] := ((Rg.Blk.new w _ _).alloc _).alloc _
                have h1 : Rg.Blk (((w.alloc (.cells #[.string ⟨#[104, 97, 115, 104]⟩, .string ⟨#[112, 111, 105, 110, 116]⟩, .string ⟨#[107, 101, 121]⟩] 9)).alloc (.cells #[.string ⟨#[112, 97, 105, 114]⟩, .string ⟨#[115, 104, 97, 114, 101]⟩, .string ⟨#[115, 105, 103, 110]⟩, .string ⟨#[115, 101, 97, 108]⟩] 9)).alloc (.cells #[.slice (some ⟨w.heap.size, 0, none⟩) 3 3, .slice (some ⟨w.heap.size + 1, 0, none⟩) 4 4] 22)) (w.heap.size + 1) 9 #[.string ⟨#[112, 97, 105, 114]⟩, .string ⟨#[115, 104, 97, 114, 101]⟩, .string ⟨#[115, 105, 103, 110]⟩, .string ⟨#[115, 101, 97, 108]⟩] := (Rg.Blk.newAt (by simp) _ _).alloc _
                have h2 : Rg.Blk (((w.alloc (.cells #[.string ⟨#[104, 97, 115, 104]⟩, .string ⟨#[112, 111, 105, 110, 116]⟩, .string ⟨#[107, 101, 121]⟩] 9)).alloc (.cells #[.string ⟨#[112, 97, 105, 114]⟩, .string ⟨#[115, 104, 97, 114, 101]⟩, .string ⟨#[115, 105, 103, 110]⟩, .string ⟨#[115, 101, 97, 108]⟩] 9)).alloc (.cells #[.slice (some ⟨w.heap.size, 0, none⟩) 3 3, .slice (some ⟨w.heap.size + 1, 0, none⟩) 4 4] 22)) (w.heap.size + 1 + 1) 22 #[.slice (some ⟨w.heap.size, 0, none⟩) 3 3, .slice (some ⟨w.heap.size + 1, 0, none⟩) 4 4] := Rg.Blk.newAt (by simp) _ _
                have hb : Below w.heap.size w (((w.alloc (.cells #[.string ⟨#[104, 97, 115, 104]⟩, .string ⟨#[112, 111, 105, 110, 116]⟩, .string ⟨#[107, 101, 121]⟩] 9)).alloc (.cells #[.string ⟨#[112, 97, 105, 114]⟩, .string ⟨#[115, 104, 97, 114, 101]⟩, .string ⟨#[115, 105, 103, 110]⟩, .string ⟨#[115, 101, 97, 108]⟩] 9)).alloc (.cells #[.slice (some ⟨w.heap.size, 0, none⟩) 3 3, .slice (some ⟨w.heap.size + 1, 0, none⟩) 4 4] 22)) := (((Below.refl _ _).alloc (Nat.le_refl _) _).alloc (by simp) _).alloc (by simp; omega) _
                generalize ((w.alloc (.cells #[.string ⟨#[104, 97, 115, 104]⟩, .string ⟨#[112, 111, 105, 110, 116]⟩, .string ⟨#[107, 101, 121]⟩] 9)).alloc (.cells #[.string ⟨#[112, 97, 105, 114]⟩, .string ⟨#[115, 104, 97, 114, 101]⟩, .string ⟨#[115, 105, 103, 110]⟩, .string ⟨#[115, 101, 97, 108]⟩] 9)).alloc (.cells #[.slice (some ⟨w.heap.size, 0, none⟩) 3 3, .slice (some ⟨w.heap.size + 1, 0, none⟩) 4 4] 22) = X at *
                have HB := Lib.hid hb
                have c00 := h0.cell 0 (v := .string ⟨#[104, 97, 115, 104]⟩) rfl
                have c01 := h0.cell 1 (v := .string ⟨#[112, 111, 105, 110, 116]⟩) rfl
                have c02 := h0.cell 2 (v := .string ⟨#[107, 101, 121]⟩) rfl
                have c10 := h1.cell 0 (v := .string ⟨#[112, 97, 105, 114]⟩) rfl
                have c11 := h1.cell 1 (v := .string ⟨#[115, 104, 97, 114, 101]⟩) rfl
                have c12 := h1.cell 2 (v := .string ⟨#[115, 105, 103, 110]⟩) rfl
                have c13 := h1.cell 3 (v := .string ⟨#[115, 101, 97, 108]⟩) rfl
                have c20 := h2.cell 0 (v := .slice (some ⟨w.heap.size, 0, none⟩) 3 3) rfl
                have c21 := h2.cell 1 (v := .slice (some ⟨w.heap.size + 1, 0, none⟩) 4 4) rfl
                clear hb h0 h1 h2
                refine wp_loop_rounds 3 ?_
                rw [rounds_succ]
                go_wp2
                refine wp_loop_rounds 4 ?_
                rw [rounds_succ]
                go_wp2
                rw [rounds_succ]
                go_wp2
                rw [rounds_succ]
                go_wp2
                rw [rounds_succ]
                go_wp2
                rw [rounds_succ]
                go_wp2
                refine wp_loop_rounds 5 ?_
                rw [rounds_succ]
                go_wp2
                rw [rounds_succ]
                go_wp2
                rw [rounds_succ]
                go_wp2
                rw [rounds_succ]
                go_wp2
                go_ret
                exact ⟨by rw [HC.out]; rfl, HB.out⟩
              · have z := True.intro
                clear z
                have HC := Lib.hid (show cnt x = 0 by unfold cnt numW; rw [if_neg n0, if_neg n1, if_neg n2, if_neg n3, if_neg n4, if_neg n5, if_neg n6]; rfl)
                have e0 : ([104, 97, 115, 104] == (strB x).toList) = false := by rw [strB_toList, beq_eq_false_iff_ne]; exact fun e => n0 e.symm
                have e1 : ([112, 111, 105, 110, 116] == (strB x).toList) = false := by rw [strB_toList, beq_eq_false_iff_ne]; exact fun e => n1 e.symm
                have e2 : ([107, 101, 121] == (strB x).toList) = false := by rw [strB_toList, beq_eq_false_iff_ne]; exact fun e => n2 e.symm
                have e3 : ([112, 97, 105, 114] == (strB x).toList) = false := by rw [strB_toList, beq_eq_false_iff_ne]; exact fun e => n3 e.symm
                have e4 : ([115, 104, 97, 114, 101] == (strB x).toList) = false := by rw [strB_toList, beq_eq_false_iff_ne]; exact fun e => n4 e.symm
                have e5 : ([115, 105, 103, 110] == (strB x).toList) = false := by rw [strB_toList, beq_eq_false_iff_ne]; exact fun e => n5 e.symm
                have e6 : ([115, 101, 97, 108] == (strB x).toList) = false := by rw [strB_toList, beq_eq_false_iff_ne]; exact fun e => n6 e.symm
                clear n0 n1 n2 n3 n4 n5 n6
                go_enter Tryd.func30, Tryd.ntmps30
                go_wp2
                have h0 : Rg.Blk (((w.alloc (.cells #[.string ⟨#[104, 97, 115, 104]⟩, .string ⟨#[112, 111, 105, 110, 116]⟩, .string ⟨#[107, 101, 121]⟩] 9)).alloc (.cells #[.string ⟨#[112, 97, 105, 114]⟩, .string ⟨#[115, 104, 97, 114, 101]⟩, .string ⟨#[115, 105, 103, 110]⟩, .string ⟨#[115, 101, 97, 108]⟩] 9)).alloc (.cells #[.slice (some ⟨w.heap.size, 0, none⟩) 3 3, .slice (some ⟨w.heap.size + 1, 0, none⟩) 4 4] 22)) w.heap.size 9 #[.string ⟨#[104, 97, 115, 104]⟩, .string ⟨#[112, 111, 105, 110, 116]⟩, .string ⟨#[107, 101, 121]⟩] := ((Rg.Blk.new w _ _).alloc _).alloc _
                have h1 : Rg.Blk (((w.alloc (.cells #[.string ⟨#[104, 97, 115, 104]⟩, .string ⟨#[112, 111, 105, 110, 116]⟩, .string ⟨#[107, 101, 121]⟩] 9)).alloc (.cells #[.string ⟨#[112, 97, 105, 114]⟩, .string ⟨#[115, 104, 97, 114, 101]⟩, .string ⟨#[115, 105, 103, 110]⟩, .string ⟨#[115, 101, 97, 108]⟩] 9)).alloc (.cells #[.slice (some ⟨w.heap.size, 0, none⟩) 3 3, .slice (some ⟨w.heap.size + 1, 0, none⟩) 4 4] 22)) (w.heap.size + 1) 9 #[.string ⟨#[112, 97, 105, 114]⟩, .string ⟨#[115, 104, 97, 114, 101]⟩, .string ⟨#[115, 105, 103, 110]⟩, .string ⟨#[115, 101, 97, 108]⟩] := (Rg.Blk.newAt (by simp) _ _).alloc _
                have h2 : Rg.Blk (((w.alloc (.cells #[.string ⟨#[104, 97, 115, 104]⟩, .string ⟨#[112, 111, 105, 110, 116]⟩, .string ⟨#[107, 101, 121]⟩] 9)).alloc (.cells #[.string ⟨#[112, 97, 105, 114]⟩, .string ⟨#[115, 104, 97, 114, 101]⟩, .string ⟨#[115, 105, 103, 110]⟩, .string ⟨#[115, 101, 97, 108]⟩] 9)).alloc (.cells #[.slice (some ⟨w.heap.size, 0, none⟩) 3 3, .slice (some ⟨w.heap.size + 1, 0, none⟩) 4 4] 22)) (w.heap.size + 1 + 1) 22 #[.slice (some ⟨w.heap.size, 0, none⟩) 3 3, .slice (some ⟨w.heap.size + 1, 0, none⟩) 4 4] := Rg.Blk.newAt (by simp) _ _
                have hb : Below w.heap.size w (((w.alloc (.cells #[.string ⟨#[104, 97, 115, 104]⟩, .string ⟨#[112, 111, 105, 110, 116]⟩, .string ⟨#[107, 101, 121]⟩] 9)).alloc (.cells #[.string ⟨#[112, 97, 105, 114]⟩, .string ⟨#[115, 104, 97, 114, 101]⟩, .string ⟨#[115, 105, 103, 110]⟩, .string ⟨#[115, 101, 97, 108]⟩] 9)).alloc (.cells #[.slice (some ⟨w.heap.size, 0, none⟩) 3 3, .slice (some ⟨w.heap.size + 1, 0, none⟩) 4 4] 22)) := (((Below.refl _ _).alloc (Nat.le_refl _) _).alloc (by simp) _).alloc (by simp; omega) _
                generalize ((w.alloc (.cells #[.string ⟨#[104, 97, 115, 104]⟩, .string ⟨#[112, 111, 105, 110, 116]⟩, .string ⟨#[107, 101, 121]⟩] 9)).alloc (.cells #[.string ⟨#[112, 97, 105, 114]⟩, .string ⟨#[115, 104, 97, 114, 101]⟩, .string ⟨#[115, 105, 103, 110]⟩, .string ⟨#[115, 101, 97, 108]⟩] 9)).alloc (.cells #[.slice (some ⟨w.heap.size, 0, none⟩) 3 3, .slice (some ⟨w.heap.size + 1, 0, none⟩) 4 4] 22) = X at *
                have HB := Lib.hid hb
                have c00 := h0.cell 0 (v := .string ⟨#[104, 97, 115, 104]⟩) rfl
                have c01 := h0.cell 1 (v := .string ⟨#[112, 111, 105, 110, 116]⟩) rfl
                have c02 := h0.cell 2 (v := .string ⟨#[107, 101, 121]⟩) rfl
                have c10 := h1.cell 0 (v := .string ⟨#[112, 97, 105, 114]⟩) rfl
                have c11 := h1.cell 1 (v := .string ⟨#[115, 104, 97, 114, 101]⟩) rfl
                have c12 := h1.cell 2 (v := .string ⟨#[115, 105, 103, 110]⟩) rfl
                have c13 := h1.cell 3 (v := .string ⟨#[115, 101, 97, 108]⟩) rfl
                have c20 := h2.cell 0 (v := .slice (some ⟨w.heap.size, 0, none⟩) 3 3) rfl
                have c21 := h2.cell 1 (v := .slice (some ⟨w.heap.size + 1, 0, none⟩) 4 4) rfl
                clear hb h0 h1 h2
                refine wp_loop_rounds 3 ?_
                rw [rounds_succ]
                go_wp2
                refine wp_loop_rounds 4 ?_
                rw [rounds_succ]
                go_wp2
                rw [rounds_succ]
                go_wp2
                rw [rounds_succ]
                go_wp2
                rw [rounds_succ]
                go_wp2
                rw [rounds_succ]
                go_wp2
                refine wp_loop_rounds 5 ?_
                rw [rounds_succ]
                go_wp2
                rw [rounds_succ]
                go_wp2
                rw [rounds_succ]
                go_wp2
                rw [rounds_succ]
                go_wp2
                rw [rounds_succ]
                go_wp2
                rw [rounds_succ]
                go_wp2
                go_ret
                exact ⟨by rw [HC.out]; rfl, HB.out⟩
end Go.Proofs.YtfcemnebhapidaaDoor.Te
