/- Line: the reference's Parse. -/
import Derived.Test.YtonjgfbefhefjaaDoorLnCr
import Derived.Test.YtonjgfbefhefjaaDoorLnW
import Derived.Test.YtonjgfbefhefjaaDoorLnSh
set_option linter.unusedVariables false
set_option linter.unusedSimpArgs false
namespace Go.Proofs.YtonjgfbefhefjaaDoor.Ln
open Go Go.RowKit Go.Proofs.YtonjgfbefhefjaaDoor.Ow
def RPost (s : List UInt8) (w : World) (e : Ending) (w' : World) : Prop :=
  (∃ f : Nat, parse s = .error f ∧ e = .returned (.tuple #[.agg #[.string ⟨#[]⟩, .slice none 0 0, .slice none 0 0, .string ⟨#[]⟩], .int .i64 (f : Int)]) ∧ (1 ≤ f ∧ f ≤ 20) ∧ Below w.heap.size w w') ∨
  (∃ c vN vK, parse s = .ok c ∧ e = .returned (.tuple #[.agg #[.string (strB c.word), vN, vK, .string (strB c.text)], .int .i64 0]) ∧ ValAt w' w.heap.size c vN vK ∧ Below w.heap.size w w')
/-- the words, and where they lie -/
def WordsAt (W : World) (B g : Nat) (l : List (List UInt8)) : Prop := B ≤ g ∧ g < W.heap.size ∧ ∀ j x, l[j]? = some x → W.cell? ⟨g, j, none⟩ = some (.string (strB x))
theorem WordsAt.below {W W' : World} {B g : Nat} {l : List (List UInt8)} (h : WordsAt W B g l) (hb : Below W.heap.size W W') : WordsAt W' B g l :=
  ⟨h.1, Nat.lt_of_lt_of_le h.2.1 hb.size, fun j x hx => (hb.cell (p := ⟨g, j, none⟩) h.2.1).trans (h.2.2 j x hx)⟩
theorem WordsAt.frm {W W' : World} {B C b g : Nat} {l : List (List UInt8)} (h : WordsAt W B g l) (hF : Frm C b W W') (hg : g < C) (hb : g ≠ b) : WordsAt W' B g l :=
  ⟨h.1, Nat.lt_of_lt_of_le h.2.1 hF.size, fun j x hx => (World.cell?_of_block (a := ⟨g, j, none⟩) (hF.block g hg hb)).trans (h.2.2 j x hx)⟩
theorem Words_at (S : ByteArray) (w : World) (hs : S.size ≤ 100000) :
    Calls Tryd.prog 21 #[.string S] w fun e w' => ∃ g k, e = .returned (.slice (some ⟨g, 0, none⟩) (sp S.data.toList).length k) ∧ (sp S.data.toList).length ≤ k ∧ WordsAt w' w.heap.size g (sp S.data.toList) ∧ Below w.heap.size w w' := by
  refine (Words_any S w hs).mono ?_
  rintro e w' ⟨v, rfl, ho, hb⟩
  obtain ⟨g, k, hv, h1, h2, h3, _⟩ := owns_at ho (by simpa using sp_ne _)
  have hcap : ((sp S.data.toList).map encS).length ≤ k := by
    have h0 : w'.ownsRow w.heap.size 9 1 v ((sp S.data.toList).map encS).length ((sp S.data.toList).map encS) := ho
    rcases h0.2 with ⟨hv', _⟩ | ⟨g', cap, cur, hv', _, _, hc', _⟩
    · rw [hv'] at hv; cases hv
    · rw [hv'] at hv; injection hv with _ _ e3; rw [← e3]; exact hc'
  rw [List.length_map] at hv hcap
  exact ⟨g, k, by rw [hv], hcap, ⟨h1, h2, fun j x hx => (h3 j (encS x) (by rw [List.getElem?_map, hx]; rfl)).1⟩, hb⟩
set_option maxRecDepth 20000 in
set_option maxHeartbeats 4000000 in
theorem RefParse_long (w : World) (S : ByteArray) (hs : S.size ≤ 1000000) (h : 2000 < S.size) :
    Calls Tryd.prog 10 #[.string S] w (RPost S.data.toList w) := by
  have HQ := Lib.hid (parse_long (s := S.data.toList) (by rw [Array.length_toList]; exact h))
  have h1 : decide (2000 < (S.size : Int)) = true := by rw [decide_eq_true_iff]; omega
  have HBX := Lib.hid (show Below w.heap.size w (w.alloc (.cells #[.string ⟨#[]⟩, .slice none 0 0, .slice none 0 0, .string ⟨#[]⟩] 32)) from (Below.refl _ _).alloc (Nat.le_refl _) _)
  have HZX := Lib.hid (Rg.Blk.new w #[.string ⟨#[]⟩, .slice none 0 0, .slice none 0 0, .string ⟨#[]⟩] 32)
  have HXS := Lib.hid (show (w.alloc (.cells #[.string ⟨#[]⟩, .slice none 0 0, .slice none 0 0, .string ⟨#[]⟩] 32)).heap.size = w.heap.size + 1 by simp)
  clear h
  go_enter Tryd.func10, Tryd.ntmps10
  go_upto_region 2 with (fail)
  generalize w.alloc (.cells #[.string ⟨#[]⟩, .slice none 0 0, .slice none 0 0, .string ⟨#[]⟩] 32) = X at *
  have HZ := HZX
  have z0 := HZ.out.cell 0 (v := .string ⟨#[]⟩) rfl; have z1 := HZ.out.cell 1 (v := .slice none 0 0) rfl; have z2 := HZ.out.cell 2 (v := .slice none 0 0) rfl; have z3 := HZ.out.cell 3 (v := .string ⟨#[]⟩) rfl
  have f0 := HZ.out.frozen 0; have f1 := HZ.out.frozen 1; have f2 := HZ.out.frozen 2; have f3 := HZ.out.frozen 3
  go_wp2_with fail
  refine bodyPost_ret (v := .tuple #[.agg #[.string ⟨#[]⟩, .slice none 0 0, .slice none 0 0, .string ⟨#[]⟩], .int .i64 4]) (by simp [results, Tryd.results10, go_sem, z0, z1, z2, z3]) rfl ?_
  refine .inl ⟨4, HQ.out, rfl, by decide, Below.trans HBX.out ?_⟩
  repeat (first | exact Below.refl _ _ | apply Below.drew | (refine Below.setCell ?_ ?_ _; rotate_left; focus (first | (simp; done) | (simp; omega) | omega)) | (refine Below.alloc ?_ ?_ _; rotate_left; focus (first | (simp; done) | (simp; omega) | omega)))
set_option maxRecDepth 20000 in
set_option maxHeartbeats 4000000 in
theorem RefParse_none (w : World) (S : ByteArray) (hs : S.size ≤ 2000) (w0 : List UInt8) (ws : List (List UInt8)) (hsp : sp S.data.toList = w0 :: ws) (hsh : shp w0 = none) :
    Calls Tryd.prog 10 #[.string S] w (RPost S.data.toList w) := by
  have HQ := Lib.hid (show parse S.data.toList = .error 20 by rw [parse_at (by rw [Array.length_toList]; exact hs) hsp, hsh])
  have HSH := Lib.hid (show ∀ W : World, Calls Tryd.prog 22 #[.string (strB w0)] W fun e w' => e = .returned (.tuple #[.string ⟨#[]⟩, .bool false]) ∧ W = w' from fun W => by
    have := RefShape_any (strB w0) W
    rw [show shpV (strB w0).data.toList = ([], false) by rw [show (strB w0).data.toList = w0 from rfl]; unfold shpV; rw [hsh]] at this
    exact this)
  have HW0 := Lib.hid (show (sp S.data.toList)[0]? = some w0 by rw [hsp]; rfl)
  have HLN := Lib.hid (show (sp S.data.toList).length = ws.length + 1 by rw [hsp]; rfl)
  have hwl : ws.length ≤ 2001 := by
    have h1 := sp_len S.data.toList
    rw [hsp, Array.length_toList] at h1
    simp at h1; omega
  have h1 : decide (2000 < (S.size : Int)) = false := by rw [decide_eq_false_iff_not]; omega
  have HBX := Lib.hid (show Below w.heap.size w (w.alloc (.cells #[.string ⟨#[]⟩, .slice none 0 0, .slice none 0 0, .string ⟨#[]⟩] 32)) from (Below.refl _ _).alloc (Nat.le_refl _) _)
  have HZX := Lib.hid (Rg.Blk.new w #[.string ⟨#[]⟩, .slice none 0 0, .slice none 0 0, .string ⟨#[]⟩] 32)
  have HXS := Lib.hid (show (w.alloc (.cells #[.string ⟨#[]⟩, .slice none 0 0, .slice none 0 0, .string ⟨#[]⟩] 32)).heap.size = w.heap.size + 1 by simp)
  clear hsp hsh
  go_enter Tryd.func10, Tryd.ntmps10
  go_wp2_with fail
  generalize w.alloc (.cells #[.string ⟨#[]⟩, .slice none 0 0, .slice none 0 0, .string ⟨#[]⟩] 32) = X at *
  go_upto_region 6 with (first
  | (go_at_call 21; refine (Words_at S _ (by omega)).mono ?_; rintro e w1 ⟨g, k, rfl, hk, hw, hb1⟩; skip; rw [HLN.out] at hk; rw [HLN.out]; have HW1 := Lib.hid hw; have HB1 := Lib.hid (HBX.out.trans (Below.mono hb1 HBX.out.size)); have HZ := Lib.hid (HZX.out.below hb1 HZX.out.lt); have HK := Lib.hid hk; have hc0 := HW1.out.2.2 0 w0 HW0.out; clear hw hb1 hk)
  | (go_at_call 22; refine (HSH.out _).mono ?_; rintro e w2 ⟨rfl, rfl⟩))
  have z0 := HZ.out.cell 0 (v := .string ⟨#[]⟩) rfl; have z1 := HZ.out.cell 1 (v := .slice none 0 0) rfl; have z2 := HZ.out.cell 2 (v := .slice none 0 0) rfl; have z3 := HZ.out.cell 3 (v := .string ⟨#[]⟩) rfl
  have f0 := HZ.out.frozen 0; have f1 := HZ.out.frozen 1; have f2 := HZ.out.frozen 2; have f3 := HZ.out.frozen 3
  go_wp2_with fail
  refine bodyPost_ret (v := .tuple #[.agg #[.string ⟨#[]⟩, .slice none 0 0, .slice none 0 0, .string ⟨#[]⟩], .int .i64 20]) (by simp [results, Tryd.results10, go_sem, z0, z1, z2, z3]) rfl ?_
  refine .inl ⟨20, HQ.out, rfl, by decide, Below.trans HB1.out ?_⟩
  repeat (first | exact Below.refl _ _ | apply Below.drew | (refine Below.setCell ?_ ?_ _; rotate_left; focus (first | (simp; done) | (simp; omega) | omega)) | (refine Below.alloc ?_ ?_ _; rotate_left; focus (first | (simp; done) | (simp; omega) | omega)))
theorem go_lens {cs : List UInt8} {ws : List (List UInt8)} {s c : Cm} (h : go cs ws s = some c) : c.names.length ≤ s.names.length + ws.length ∧ c.nums.length ≤ s.nums.length + ws.length := by
  induction ws generalizing cs s with
  | nil => cases cs <;> simp [go] at h <;> subst h <;> simp
  | cons w ws ih =>
    cases cs with
    | nil => simp [go] at h
    | cons x cs =>
      rw [go] at h
      cases hp : put x w s with
      | none => rw [hp] at h; cases h
      | some d =>
        rw [hp] at h
        have h1 := ih (show go cs ws d = some c from h)
        have h2 : d.names.length ≤ s.names.length + 1 ∧ d.nums.length ≤ s.nums.length + 1 := by
          unfold put at hp
          split at hp
          · cases hn : numL w with
            | none => rw [hn] at hp; cases hp
            | some n => rw [hn] at hp; cases hp; simp
          · split at hp
            · cases hn : textL w with
              | none => rw [hn] at hp; cases hp
              | some n => rw [hn] at hp; cases hp; simp
            · cases hn : nmL w with
              | none => rw [hn] at hp; cases hp
              | some n => rw [hn] at hp; cases hp; simp
        simp only [List.length_cons]
        omega
/-- between two words -/
structure RI (w : World) (ws : List (List UInt8)) (rl w0 : List UInt8) (g b8 j : Nat) (c : Cm) (vN vK : Value) (W : World) : Prop where
  go : go rl (ws.take j) ⟨w0, [], [], []⟩ = some c
  cmd : CmdRt W (b8 + 1) b8 c vN vK
  ws : ∀ j x, ws[j]? = some x → W.cell? ⟨g, j + 1, none⟩ = some (.string (strB x))
  gl : g < b8
  z : Rg.Blk W w.heap.size 32 #[.string ⟨#[]⟩, .slice none 0 0, .slice none 0 0, .string ⟨#[]⟩]
  bel : Below w.heap.size w W
  zb : w.heap.size < b8
def RRel (w : World) (ws : List (List UInt8)) (rl w0 : List UInt8) (g b8 : Nat) (i : Value) (W : World) : Prop := ∃ (j : Nat) (c : Cm) (vN vK : Value), j ≤ ws.length ∧ i = .int .i64 j ∧ RI w ws rl w0 g b8 j c vN vK W
theorem RI.below {w W W' : World} {ws : List (List UInt8)} {rl w0 : List UInt8} {g b8 j : Nat} {c : Cm} {vN vK : Value} (h : RI w ws rl w0 g b8 j c vN vK W) (hb : Below W.heap.size W W') : RI w ws rl w0 g b8 j c vN vK W' :=
  ⟨h.go, h.cmd.below hb, fun j x hx => (hb.cell (p := ⟨g, j + 1, none⟩) (Nat.lt_trans h.gl h.cmd.blk.lt)).trans (h.ws j x hx), h.gl, h.z.below hb h.z.lt, h.bel.trans (hb.mono h.bel.size), h.zb⟩
theorem RI.next {w W W' : World} {ws : List (List UInt8)} {rl w0 : List UInt8} {g b8 j : Nat} {c d : Cm} {vN vK vN' vK' : Value} (h : RI w ws rl w0 g b8 j c vN vK W) (hg : Ln.go rl (ws.take (j + 1)) ⟨w0, [], [], []⟩ = some d) (hF : Frm (b8 + 1) b8 W W') (hd : CmdRt W' (b8 + 1) b8 d vN' vK') : RI w ws rl w0 g b8 (j + 1) d vN' vK' W' :=
  ⟨hg, hd, fun j x hx => (World.cell?_of_block (a := ⟨g, j + 1, none⟩) (hF.block g (by have := h.gl; omega) (by have := h.gl; omega))).trans (h.ws j x hx), h.gl, hF.blk h.z (by have := h.zb; omega) (by have := h.zb; omega), h.bel.trans (hF.bel (by have := h.zb; omega) (by have := h.zb; omega)), h.zb⟩
set_option maxRecDepth 20000 in
set_option maxHeartbeats 16000000 in
theorem RefParse_run (w : World) (S : ByteArray) (hs : S.size ≤ 2000) (w0 : List UInt8) (ws : List (List UInt8)) (hsp : sp S.data.toList = w0 :: ws) (sh : List UInt8) (hsh : shp w0 = some sh) :
    Calls Tryd.prog 10 #[.string S] w (RPost S.data.toList w) := by
  have HP0 := parse_ref (by rw [Array.length_toList]; exact hs) hsp hsh
  have HSP := Lib.hid hsp
  have HSS := Lib.hid hs
  have HSH := Lib.hid (show ∀ W : World, Calls Tryd.prog 22 #[.string (strB w0)] W fun e w' => e = .returned (.tuple #[.string (strB sh), .bool true]) ∧ W = w' from fun W => by
    have := RefShape_any (strB w0) W
    rw [show shpV (strB w0).data.toList = (sh, true) by rw [show (strB w0).data.toList = w0 from rfl]; unfold shpV; rw [hsh]] at this
    exact this)
  have hshl : sh.length ≤ 100 := by
    have : ∀ r ∈ tab, r.2.length ≤ 100 := by decide +kernel
    exact this _ (shp_mem hsh)
  have HW0 := Lib.hid (show (sp S.data.toList)[0]? = some w0 by rw [hsp]; rfl)
  have HLN := Lib.hid (show (sp S.data.toList).length = ws.length + 1 by rw [hsp]; rfl)
  have hwl : ws.length ≤ 2001 := by
    have h1 := sp_len S.data.toList
    rw [hsp, Array.length_toList] at h1
    simp at h1; omega
  have h1 : decide (2000 < (S.size : Int)) = false := by rw [decide_eq_false_iff_not]; omega
  have HBX := Lib.hid (show Below w.heap.size w (w.alloc (.cells #[.string ⟨#[]⟩, .slice none 0 0, .slice none 0 0, .string ⟨#[]⟩] 32)) from (Below.refl _ _).alloc (Nat.le_refl _) _)
  have HZX := Lib.hid (Rg.Blk.new w #[.string ⟨#[]⟩, .slice none 0 0, .slice none 0 0, .string ⟨#[]⟩] 32)
  have HXS := Lib.hid (show (w.alloc (.cells #[.string ⟨#[]⟩, .slice none 0 0, .slice none 0 0, .string ⟨#[]⟩] 32)).heap.size = w.heap.size + 1 by simp)
  clear hsp hsh
  obtain ⟨rl, hrl⟩ : ∃ rl, rl = refLets sh (ws.length + 1) := ⟨_, rfl⟩
  rw [← hrl] at HP0
  have HP := Lib.hid HP0
  clear HP0
  have HRL := Lib.hid hrl
  obtain ⟨bq, d0⟩ : ∃ bq, ((strB sh).toList == [110, 110, 35, 35, 35, 42]) = bq := ⟨_, rfl⟩
  have HBQ := Lib.hid (show bq = true ↔ sh = [110, 110, 35, 35, 35, 42] by rw [← d0, beq_iff_eq, strB_toList])
  clear hrl
  go_enter Tryd.func10, Tryd.ntmps10
  go_wp2_with fail
  generalize w.alloc (.cells #[.string ⟨#[]⟩, .slice none 0 0, .slice none 0 0, .string ⟨#[]⟩] 32) = X at *
  go_upto_if 31 with (first
  | (go_at_call 21; refine (Words_at S _ (by omega)).mono ?_; rintro e w1 ⟨g, k, rfl, hk, hw, hb1⟩; skip; rw [HLN.out] at hk; rw [HLN.out]; have HW1 := Lib.hid hw; have HB1 := Lib.hid (HBX.out.trans (Below.mono hb1 HBX.out.size)); have HZ := Lib.hid (HZX.out.below hb1 HZX.out.lt); have HK := Lib.hid hk; have hc0 := HW1.out.2.2 0 w0 HW0.out; clear hw hb1 hk)
  | (go_at_call 22; refine (HSH.out _).mono ?_; rintro e w2 ⟨rfl, rfl⟩))
  go_cut [5] (fun v wx => v = .string (strB rl) ∧ w1 = wx)
  case first =>
    cases bq with
    | false =>
      have hsr : rl = sh := by
        rw [HRL.out]; unfold refLets
        rw [if_neg (fun e => by have := HBQ.out.2 e; cases this)]
      go_wp2_with fail
      go_meet
      exact ⟨by rw [hsr], rfl⟩
    | true =>
      have hst := HBQ.out.1 rfl
      have HRM := Lib.hid (show rl = [110, 110, 35, 35, 35] ++ List.replicate (min (ws.length + 1) 22 - 6) 110 by rw [HRL.out]; unfold refLets; rw [if_pos hst])
      clear hst
      go_wp2_with fail
      go_loop [5, 7] (fun v i => ∃ q : Nat, 6 ≤ q ∧ q ≤ 22 ∧ (q = 6 ∨ q ≤ ws.length + 1) ∧ i = .int .i64 q ∧ v = .string (strB ([110, 110, 35, 35, 35] ++ List.replicate (q - 6) 110))) (fun _ i => 23 - (intOf i).toNat)
      case atStart => exact ⟨6, by decide, by decide, .inl rfl, rfl, rfl⟩
      case round =>
        obtain ⟨q, hq1, hq2, hq3, rfl, rfl⟩ := hrel
        obtain ⟨a, ha⟩ : ∃ a, a = [110, 110, 35, 35, 35] ++ List.replicate (q - 6) (110 : UInt8) := ⟨_, rfl⟩
        have HAA := Lib.hid ha
        rw [← ha]
        have hasz : (strB a).size ≤ 100 := by rw [strB_size, ha]; simp; omega
        clear ha
        by_cases hc : q < ws.length + 1 ∧ q < 22
        · have c1 : decide ((q : Int) < (ws.length : Int) + 1) = true := by rw [decide_eq_true_iff]; omega
          have c2 : decide (q < ws.length + 1) = true := by rw [decide_eq_true_iff]; omega
          have c3 : decide ((q : Int) < 22) = true := by rw [decide_eq_true_iff]; omega
          have HE := Lib.hid (show Value.string (strB a ++ ⟨#[110]⟩) = .string (strB ([110, 110, 35, 35, 35] ++ List.replicate (q + 1 - 6) 110)) by
            congr 1
            apply list_inj
            rw [app_list, HAA.out, show q + 1 - 6 = q - 6 + 1 by omega, List.replicate_succ']
            simp [strB])
          have hq4 : q + 1 ≤ 22 := by omega
          have hq5 : q + 1 ≤ ws.length + 1 := by omega
          clear hc
          go_wp2_with fail
          go_round
          case rel => exact ⟨q + 1, by omega, by omega, by omega, by go_num, HE.out⟩
          case measure => simp [intOf]; omega
        · have HAR := Lib.hid (show rl = a by
            rw [HRM.out, HAA.out]
            congr 2
            omega)
          have hcs : ¬ q < ws.length + 1 ∨ (q < ws.length + 1 ∧ ¬ q < 22) := by omega
          rcases hcs with hc2 | ⟨hc2, hc3⟩
          · have c1 : decide ((q : Int) < (ws.length : Int) + 1) = false := by rw [decide_eq_false_iff_not]; omega
            have c2 : decide (q < ws.length + 1) = false := by rw [decide_eq_false_iff_not]; omega
            clear hc hc2
            go_wp2_with fail
            go_meet
            exact ⟨by rw [HAR.out], rfl⟩
          · have c1 : decide ((q : Int) < (ws.length : Int) + 1) = true := by rw [decide_eq_true_iff]; omega
            have c2 : decide (q < ws.length + 1) = true := by rw [decide_eq_true_iff]; omega
            have c3 : decide ((q : Int) < 22) = false := by rw [decide_eq_false_iff_not]; omega
            clear hc hc2 hc3
            go_wp2_with fail
            go_meet
            exact ⟨by rw [HAR.out], rfl⟩
  case rest =>
    obtain ⟨rfl, hwc⟩ := hcut
    subst hwc
    clear d0 HBQ
    have hrls : (strB rl).size = rl.length := strB_size _
    by_cases hne : ws.length = rl.length
    · have HPR := Lib.hid (show parse S.data.toList = match go rl ws ⟨w0, [], [], []⟩ with
          | none => .error 3
          | some c => .ok c by rw [HP.out, if_neg (by omega)]; rfl)
      have d1 : (ws.length == rl.length) = true := by rw [beq_iff_eq]; exact hne
      have d2 : (ws.length != rl.length) = false := by rw [bne_eq_false_iff_eq]; exact hne
      have d3 : ((ws.length : Int) == (rl.length : Int)) = true := by rw [beq_iff_eq]; omega
      have d4 : ((ws.length : Int) != (rl.length : Int)) = false := by rw [bne_eq_false_iff_eq]; omega
      obtain ⟨A', hrun, hA'⟩ := slice_one 24 9 Tryd.underlying24 (by kernel_rfl) g 0 ws.length k HK.out
      have HA' := Lib.hid hA'
      have HNE := Lib.hid hne
      have hzl := HZ.out.lt
      clear hA' hne
      go_upto_region 16 with (fail)
      have HCR := Lib.hid (show CmdRt (w1.alloc (.cells #[.string (strB w0), .slice none 0 0, .slice none 0 0, .string ⟨#[]⟩] 32)) (w1.heap.size + 1) w1.heap.size ⟨w0, [], [], []⟩ (.slice none 0 0) (.slice none 0 0) from ⟨Rg.Blk.new w1 _ _, Owns.nil _ _ _, Owns.nil _ _ _, by omega, by simp⟩)
      have HBW := Lib.hid (show Below w1.heap.size w1 (w1.alloc (.cells #[.string (strB w0), .slice none 0 0, .slice none 0 0, .string ⟨#[]⟩] 32)) from (Below.refl _ _).alloc (Nat.le_refl _) _)
      have HG := Lib.hid HW1.out.2.1
      generalize w1.alloc (.cells #[.string (strB w0), .slice none 0 0, .slice none 0 0, .string ⟨#[]⟩] 32) = Y at *
      have HR0 := Lib.hid (show RRel w ws rl w0 g w1.heap.size (.int .i64 0) Y from ⟨0, _, _, _, Nat.zero_le _, rfl, ⟨by rw [List.take_zero]; cases rl <;> rfl, HCR.out, fun j x hx => (HW1.out.below HBW.out).2.2 (j + 1) x (by rw [HSP.out]; simpa using hx), HG.out, HZ.out.below HBW.out HZ.out.lt, HB1.out.trans (HBW.out.mono HB1.out.size), HZ.out.lt⟩⟩)
      obtain ⟨b8, hb8⟩ : ∃ b8, b8 = w1.heap.size := ⟨_, rfl⟩
      rw [← hb8] at HR0 ⊢
      clear hb8
      go_wp2_with fail
      go_loopw [58] (fun i W => RRel w ws rl w0 g b8 i W) (fun i _ => ws.length - (intOf i).toNat)
      case atStart => exact HR0.out
      case round =>
        obtain ⟨j, c, vN, vK, hj, rfl, hi⟩ := hrel
        have HI := Lib.hid hi
        have hzb := hi.zb
        have HLC := Lib.hid (show c.names.length ≤ 100000 ∧ c.nums.length ≤ 100000 by
          have := go_lens hi.go
          rw [List.length_take] at this
          simp at this
          omega)
        clear hi HR0
        by_cases hlt : j < ws.length
        · have hd1 : decide (j < ws.length) = true := decide_eq_true hlt
          have hij : (j : Int) < (ws.length : Int) := by omega
          have hij2 : (j : Int) < (rl.length : Int) := by have := HNE.out; omega
          have hlt2 : j < (strB rl).size := by have := HNE.out; rw [strB_size]; omega
          obtain ⟨x, hx⟩ : ∃ x, ws[j]? = some x := ⟨_, List.getElem?_eq_getElem hlt⟩
          have hcx : wr.cell? ⟨g, 1 + j, none⟩ = some (.string (strB x)) := by rw [Nat.add_comm 1 j]; exact HI.out.ws j x hx
          have hcx2 : wr.cell? ⟨g, 0 + 1 + j, none⟩ = some (.string (strB x)) := by rw [Nat.zero_add]; exact hcx
          obtain rfl : A' = some ⟨g, 0 + 1, none⟩ := HA'.out (by omega)
          have HXS := Lib.hid (show (strB x).size ≤ 100000 by
            have h1 := sp_size S.data.toList x (by rw [HSP.out]; exact List.mem_cons_of_mem _ (List.mem_of_getElem? hx))
            have h4 : S.data.toList.length = S.size := Array.length_toList
            have h2 := HSS.out
            rw [strB_size]
            omega)
          have HYY := Lib.hid (get_list (strB rl) j hlt2)
          have HGS := Lib.hid (show go rl (ws.take (j + 1)) ⟨w0, [], [], []⟩ = put (strB rl)[j] x c by
            rw [List.take_add_one, hx]
            show go rl (ws.take j ++ [x]) _ = _
            rw [go_snoc, HI.out.go]
            simp only [Option.bind_some]
            rw [show (ws.take j).length = j by rw [List.length_take]; omega, show rl[j]? = some (strB rl)[j] from HYY.out]
            rfl)
          clear hx
          by_cases hy : (strB rl)[j] = 35
          · have HGS2 := Lib.hid (show go rl (ws.take (j + 1)) ⟨w0, [], [], []⟩ = put 35 x c by rw [HGS.out, hy])
            clear HGS
            have HGS := HGS2
            have HPU := Lib.hid (numI_put x c)
            have HCN := Lib.hid (show ∀ W, Calls Tryd.prog 23 #[.string (strB x)] W fun e w' => e = .returned (.int .i64 (numI x)) ∧ W = w' from fun W => RefNumber_any (strB x) W (by have := HXS.out; omega))
            have e35 : (((strB rl)[j].toNat : Int) == 35) = true := by rw [hy]; rfl
            have e116 : (((strB rl)[j].toNat : Int) == 116) = false := by rw [hy]; rfl
            clear hy
            have HI2 := HI
            by_cases hn : numI x < 0
            · have HQF := Lib.hid (show parse S.data.toList = .error 3 by rw [HPR.out, go_none (pre := ws.take (j + 1)) (by (rw [HGS.out, HPU.out, if_pos hn]) <;> rfl) (List.take_prefix _ _)])
              have dn : decide (numI x < 0) = true := decide_eq_true hn
              clear hn
              go_upto_region 28 with (go_at_call 23; refine (HCN.out _).mono ?_; rintro e w' ⟨rfl, rfl⟩)
              have HZ2 := HI2.out.z
              have z0 := HZ2.cell 0 (v := .string ⟨#[]⟩) rfl; have z1 := HZ2.cell 1 (v := .slice none 0 0) rfl; have z2 := HZ2.cell 2 (v := .slice none 0 0) rfl; have z3 := HZ2.cell 3 (v := .string ⟨#[]⟩) rfl
              have f0 := HZ2.frozen 0; have f1 := HZ2.frozen 1; have f2 := HZ2.frozen 2; have f3 := HZ2.frozen 3
              clear HZ2
              go_wp2_with fail
              refine bodyPost_ret (v := .tuple #[.agg #[.string ⟨#[]⟩, .slice none 0 0, .slice none 0 0, .string ⟨#[]⟩], .int .i64 3]) (by simp [results, Tryd.results10, go_sem, z0, z1, z2, z3]) rfl ?_
              refine .inl ⟨3, HQF.out, rfl, by decide, Below.trans HI2.out.bel ?_⟩
              repeat (first | exact Below.refl _ _ | apply Below.drew | (refine Below.setCell ?_ ?_ _; rotate_left; focus (first | (simp; done) | (simp; omega) | omega)) | (refine Below.alloc ?_ ?_ _; rotate_left; focus (first | (simp; done) | (simp; omega) | omega)))
            · have HGN := Lib.hid (show go rl (ws.take (j + 1)) ⟨w0, [], [], []⟩ = some { c with nums := c.nums ++ [numI x] } by (rw [HGS.out, HPU.out, if_neg hn]))
              have dn : decide (numI x < 0) = false := decide_eq_false hn
              have p2 := HI.out.cmd.blk.cell 2 (v := vK) rfl
              have HLL := Lib.hid (show ((c.nums.map (Value.int .i64)).length + 1) * 8 ≤ 140737488355328 by have := HLC.out.2; rw [List.length_map]; omega)
              have HLE := Lib.hid HI.out.cmd.le
              clear hn
              go_wp2_with (first
                | (go_at_call 23; refine (HCN.out _).mono ?_; rintro e w' ⟨rfl, rfl⟩)
                | (refine app1 rfl _ _ 25 rfl (E := 3) (z := .int .i64 0) (by' := 8) rfl rfl rfl (by decide) HI.out.cmd.nums rfl rfl rfl HLL.out HLE.out ?_; rintro v6 w6 h2 h3 h4; skip; obtain ⟨A6, c6, hv6, _, _⟩ := h2.form; rw [List.length_append, List.length_map, List.length_singleton] at hv6; subst hv6; have HR := Lib.hid (HI.out.cmd.num h2 h3); have HB6 := HI.out.cmd.row HI.out.cmd.nums h3; have p6 := HB6.cell 2 (v := vK) rfl; have q6 := HB6.frozen 2; clear h2 h3 h4 HB6))
              go_roundw
              case rel =>
                have REL := Lib.hid (show RRel w ws rl w0 g b8 (.int .i64 ((j : Int) + 1)) _ from ⟨j + 1, _, _, _, by omega, by go_num, HI.out.next HGN.out HR.out.2 HR.out.1⟩)
                first
                  | exact REL.out
                  | ((repeat apply Exists.intro); refine ⟨?_, rfl⟩; exact REL.out)
              case measure => (first | (simp [intOf]; done) | (simp [intOf]; omega))
          · have h35 := hy
            clear hy
            by_cases hy : (strB rl)[j] = 116
            · have HGS2 := Lib.hid (show go rl (ws.take (j + 1)) ⟨w0, [], [], []⟩ = put 116 x c by rw [HGS.out, hy])
              clear HGS
              have HGS := HGS2
              have HPU := Lib.hid (textV_put x c)
              have e35 : (((strB rl)[j].toNat : Int) == 35) = false := by rw [hy]; rfl
              have e116 : (((strB rl)[j].toNat : Int) == 116) = true := by rw [hy]; rfl
              clear hy h35
              cases hn : (textV x).2
              · have HQF := Lib.hid (show parse S.data.toList = .error 3 by rw [HPR.out, go_none (pre := ws.take (j + 1)) (by (rw [HGS.out, HPU.out, hn]) <;> rfl) (List.take_prefix _ _)])
                have HCT := Lib.hid (show ∀ W, Calls Tryd.prog 24 #[.string (strB x)] W fun e w' => e = .returned (.tuple #[.string (strB (textV x).1), .bool false]) ∧ Below W.heap.size W w' from fun W => by
                  have h := RefText_any (strB x) W (by have := HXS.out; omega)
                  rw [show (strB x).data.toList = x from rfl, hn] at h
                  exact h)
                clear hn
                go_upto_region 33 with (go_at_call 24; refine (HCT.out _).mono ?_; rintro e w5 ⟨rfl, hb5⟩; skip; have HI2 := Lib.hid (HI.out.below hb5); clear hb5)
                have HZ2 := HI2.out.z
                have z0 := HZ2.cell 0 (v := .string ⟨#[]⟩) rfl; have z1 := HZ2.cell 1 (v := .slice none 0 0) rfl; have z2 := HZ2.cell 2 (v := .slice none 0 0) rfl; have z3 := HZ2.cell 3 (v := .string ⟨#[]⟩) rfl
                have f0 := HZ2.frozen 0; have f1 := HZ2.frozen 1; have f2 := HZ2.frozen 2; have f3 := HZ2.frozen 3
                clear HZ2
                go_wp2_with fail
                refine bodyPost_ret (v := .tuple #[.agg #[.string ⟨#[]⟩, .slice none 0 0, .slice none 0 0, .string ⟨#[]⟩], .int .i64 3]) (by simp [results, Tryd.results10, go_sem, z0, z1, z2, z3]) rfl ?_
                refine .inl ⟨3, HQF.out, rfl, by decide, Below.trans HI2.out.bel ?_⟩
                repeat (first | exact Below.refl _ _ | apply Below.drew | (refine Below.setCell ?_ ?_ _; rotate_left; focus (first | (simp; done) | (simp; omega) | omega)) | (refine Below.alloc ?_ ?_ _; rotate_left; focus (first | (simp; done) | (simp; omega) | omega)))
              · have HGN := Lib.hid (show go rl (ws.take (j + 1)) ⟨w0, [], [], []⟩ = some { c with text := (textV x).1 } by (rw [HGS.out, HPU.out, hn]) <;> rfl)
                have HCT := Lib.hid (show ∀ W, Calls Tryd.prog 24 #[.string (strB x)] W fun e w' => e = .returned (.tuple #[.string (strB (textV x).1), .bool true]) ∧ Below W.heap.size W w' from fun W => by
                  have h := RefText_any (strB x) W (by have := HXS.out; omega)
                  rw [show (strB x).data.toList = x from rfl, hn] at h
                  exact h)
                clear hn
                go_wp2_with (go_at_call 24; refine (HCT.out _).mono ?_; rintro e w5 ⟨rfl, hb5⟩; skip; have HI2 := Lib.hid (HI.out.below hb5); have p3 := HI2.out.cmd.blk.cell 3 (v := .string (strB c.text)) rfl; have q3 := HI2.out.cmd.blk.frozen 3; clear hb5)
                have HR := Lib.hid (HI2.out.cmd.text (t := (textV x).1))
                go_roundw
                case rel =>
                  have REL := Lib.hid (show RRel w ws rl w0 g b8 (.int .i64 ((j : Int) + 1)) _ from ⟨j + 1, _, _, _, by omega, by go_num, HI2.out.next HGN.out HR.out.2 HR.out.1⟩)
                  first
                    | exact REL.out
                    | ((repeat apply Exists.intro); refine ⟨?_, rfl⟩; exact REL.out)
                case measure => (first | (simp [intOf]; done) | (simp [intOf]; omega))
            · have h116 := hy
              clear hy
              have HPU := Lib.hid (may_put (strB rl)[j] x c h35 h116)
              have e35 : (((strB rl)[j].toNat : Int) == 35) = false := by rw [beq_eq_false_iff_ne]; intro e; exact h35 (UInt8.toNat_inj.1 (by show (strB rl)[j].toNat = 35; omega))
              have e116 : (((strB rl)[j].toNat : Int) == 116) = false := by rw [beq_eq_false_iff_ne]; intro e; exact h116 (UInt8.toNat_inj.1 (by show (strB rl)[j].toNat = 116; omega))
              clear h35 h116
              have HI2 := HI
              cases hn : mayB x
              · have HQF := Lib.hid (show parse S.data.toList = .error 3 by rw [HPR.out, go_none (pre := ws.take (j + 1)) (by (rw [HGS.out, HPU.out, hn]) <;> rfl) (List.take_prefix _ _)])
                have HCT := Lib.hid (show ∀ W, Calls Tryd.prog 25 #[.string (strB x)] W fun e w' => e = .returned (.bool false) ∧ W = w' from fun W => by
                  have h := may_any (strB x) W (by have := HXS.out; omega)
                  rw [show (strB x).data.toList = x from rfl, hn] at h
                  exact h)
                clear hn
                go_upto_region 21 with (go_at_call 25; refine (HCT.out _).mono ?_; rintro e w' ⟨rfl, rfl⟩)
                have HZ2 := HI2.out.z
                have z0 := HZ2.cell 0 (v := .string ⟨#[]⟩) rfl; have z1 := HZ2.cell 1 (v := .slice none 0 0) rfl; have z2 := HZ2.cell 2 (v := .slice none 0 0) rfl; have z3 := HZ2.cell 3 (v := .string ⟨#[]⟩) rfl
                have f0 := HZ2.frozen 0; have f1 := HZ2.frozen 1; have f2 := HZ2.frozen 2; have f3 := HZ2.frozen 3
                clear HZ2
                go_wp2_with fail
                refine bodyPost_ret (v := .tuple #[.agg #[.string ⟨#[]⟩, .slice none 0 0, .slice none 0 0, .string ⟨#[]⟩], .int .i64 3]) (by simp [results, Tryd.results10, go_sem, z0, z1, z2, z3]) rfl ?_
                refine .inl ⟨3, HQF.out, rfl, by decide, Below.trans HI2.out.bel ?_⟩
                repeat (first | exact Below.refl _ _ | apply Below.drew | (refine Below.setCell ?_ ?_ _; rotate_left; focus (first | (simp; done) | (simp; omega) | omega)) | (refine Below.alloc ?_ ?_ _; rotate_left; focus (first | (simp; done) | (simp; omega) | omega)))
              · have HGN := Lib.hid (show go rl (ws.take (j + 1)) ⟨w0, [], [], []⟩ = some { c with names := c.names ++ [if x = [45] then [] else x] } by (rw [HGS.out, HPU.out, hn]) <;> rfl)
                have HCT := Lib.hid (show ∀ W, Calls Tryd.prog 25 #[.string (strB x)] W fun e w' => e = .returned (.bool true) ∧ W = w' from fun W => by
                  have h := may_any (strB x) W (by have := HXS.out; omega)
                  rw [show (strB x).data.toList = x from rfl, hn] at h
                  exact h)
                have p1 := HI.out.cmd.blk.cell 1 (v := vN) rfl
                have HLL := Lib.hid (show ((c.names.map encS).length + 1) * 16 ≤ 140737488355328 by have := HLC.out.1; rw [List.length_map]; omega)
                have HLE := Lib.hid HI.out.cmd.le
                clear hn
                by_cases hds : x = [45]
                · have d45 := beq_lit (S := strB x) (l := [45]) hds
                  have HGM := Lib.hid (show go rl (ws.take (j + 1)) ⟨w0, [], [], []⟩ = some { c with names := c.names ++ [[]] } by rw [HGN.out, if_pos hds])
                  clear hds HGN
                  go_wp2_with (first
                    | (go_at_call 25; refine (HCT.out _).mono ?_; rintro e w' ⟨rfl, rfl⟩)
                    | (refine app1 rfl _ _ 24 rfl (E := 9) (z := .string ⟨#[]⟩) (by' := 16) rfl rfl rfl (by decide) HI.out.cmd.names rfl rfl rfl HLL.out HLE.out ?_; rintro v6 w6 h2 h3 h4; skip; obtain ⟨A6, c6, hv6, _, _⟩ := h2.form; rw [List.length_append, List.length_map, List.length_singleton] at hv6; subst hv6; have HR := Lib.hid (HI.out.cmd.name (n := []) h2 h3); have HB6 := HI.out.cmd.row HI.out.cmd.names h3; have p6 := HB6.cell 1 (v := vN) rfl; have q6 := HB6.frozen 1; clear h2 h3 h4 HB6))
                  go_roundw
                  case rel =>
                    have REL := Lib.hid (show RRel w ws rl w0 g b8 (.int .i64 ((j : Int) + 1)) _ from ⟨j + 1, _, _, _, by omega, by go_num, HI.out.next HGM.out HR.out.2 HR.out.1⟩)
                    first
                      | exact REL.out
                      | ((repeat apply Exists.intro); refine ⟨?_, rfl⟩; exact REL.out)
                  case measure => (first | (simp [intOf]; done) | (simp [intOf]; omega))
                · have d45 := bne_lit (S := strB x) (l := [45]) hds
                  have HGM := Lib.hid (show go rl (ws.take (j + 1)) ⟨w0, [], [], []⟩ = some { c with names := c.names ++ [x] } by rw [HGN.out, if_neg hds])
                  clear hds HGN
                  go_wp2_with (first
                    | (go_at_call 25; refine (HCT.out _).mono ?_; rintro e w' ⟨rfl, rfl⟩)
                    | (refine app1 rfl _ _ 24 rfl (E := 9) (z := .string ⟨#[]⟩) (by' := 16) rfl rfl rfl (by decide) HI.out.cmd.names rfl rfl rfl HLL.out HLE.out ?_; rintro v6 w6 h2 h3 h4; skip; obtain ⟨A6, c6, hv6, _, _⟩ := h2.form; rw [List.length_append, List.length_map, List.length_singleton] at hv6; subst hv6; have HR := Lib.hid (HI.out.cmd.name (n := x) h2 h3); have HB6 := HI.out.cmd.row HI.out.cmd.names h3; have p6 := HB6.cell 1 (v := vN) rfl; have q6 := HB6.frozen 1; clear h2 h3 h4 HB6))
                  go_roundw
                  case rel =>
                    have REL := Lib.hid (show RRel w ws rl w0 g b8 (.int .i64 ((j : Int) + 1)) _ from ⟨j + 1, _, _, _, by omega, by go_num, HI.out.next HGM.out HR.out.2 HR.out.1⟩)
                    first
                      | exact REL.out
                      | ((repeat apply Exists.intro); refine ⟨?_, rfl⟩; exact REL.out)
                  case measure => (first | (simp [intOf]; done) | (simp [intOf]; omega))
        · have hd1 : decide (j < ws.length) = false := decide_eq_false hlt
          have HQ := Lib.hid (show parse S.data.toList = .ok c by
            have h1 := HI.out.go
            rw [show j = ws.length by omega, List.take_length] at h1
            rw [HPR.out, h1])
          obtain ⟨B1, m1, hv1, _, _⟩ := HI.out.cmd.names.form
          obtain ⟨B2, m2, hv2, _, _⟩ := HI.out.cmd.nums.form
          rw [List.length_map] at hv1 hv2
          subst hv1 hv2
          have x0 := HI.out.cmd.blk.cell 0 (v := .string (strB c.word)) rfl; have x1 := HI.out.cmd.blk.cell 1 (v := .slice B1 c.names.length m1) rfl; have x2 := HI.out.cmd.blk.cell 2 (v := .slice B2 c.nums.length m2) rfl; have x3 := HI.out.cmd.blk.cell 3 (v := .string (strB c.text)) rfl
          have HZ2 := HI.out.z
          have z0 := HZ2.cell 0 (v := .string ⟨#[]⟩) rfl; have z1 := HZ2.cell 1 (v := .slice none 0 0) rfl; have z2 := HZ2.cell 2 (v := .slice none 0 0) rfl; have z3 := HZ2.cell 3 (v := .string ⟨#[]⟩) rfl
          have f0 := HZ2.frozen 0; have f1 := HZ2.frozen 1; have f2 := HZ2.frozen 2; have f3 := HZ2.frozen 3
          clear HZ2 hlt
          go_wp2_with fail
          refine bodyPost_ret (v := .tuple #[.agg #[.string (strB c.word), .slice B1 c.names.length m1, .slice B2 c.nums.length m2, .string (strB c.text)], .int .i64 0]) (by simp [results, Tryd.results10, go_sem, z0, z1, z2, z3]) rfl ?_
          refine .inr ⟨c, _, _, HQ.out, rfl, ⟨owns_mono (owns_set (owns_set (owns_set (owns_set HI.out.cmd.names (by omega)) (by omega)) (by omega)) (by omega)) (by omega), owns_mono (owns_set (owns_set (owns_set (owns_set HI.out.cmd.nums (by omega)) (by omega)) (by omega)) (by omega)) (by omega)⟩, Below.trans HI.out.bel ?_⟩
          repeat (first | exact Below.refl _ _ | apply Below.drew | (refine Below.setCell ?_ ?_ _; rotate_left; focus (first | (simp; done) | (simp; omega) | omega)) | (refine Below.alloc ?_ ?_ _; rotate_left; focus (first | (simp; done) | (simp; omega) | omega)))
    · have HQ := Lib.hid (show parse S.data.toList = .error 3 by rw [HP.out, if_pos hne])
      have d1 : (ws.length == rl.length) = false := by rw [beq_eq_false_iff_ne]; exact hne
      have d2 : (ws.length != rl.length) = true := by rw [bne_iff_ne]; exact hne
      have d3 : ((ws.length : Int) == (rl.length : Int)) = false := by rw [beq_eq_false_iff_ne]; omega
      have d4 : ((ws.length : Int) != (rl.length : Int)) = true := by rw [bne_iff_ne]; omega
      clear hne
      go_upto_region 14 with (fail)
      have z0 := HZ.out.cell 0 (v := .string ⟨#[]⟩) rfl; have z1 := HZ.out.cell 1 (v := .slice none 0 0) rfl; have z2 := HZ.out.cell 2 (v := .slice none 0 0) rfl; have z3 := HZ.out.cell 3 (v := .string ⟨#[]⟩) rfl
      have f0 := HZ.out.frozen 0; have f1 := HZ.out.frozen 1; have f2 := HZ.out.frozen 2; have f3 := HZ.out.frozen 3
      go_wp2_with fail
      refine bodyPost_ret (v := .tuple #[.agg #[.string ⟨#[]⟩, .slice none 0 0, .slice none 0 0, .string ⟨#[]⟩], .int .i64 3]) (by simp [results, Tryd.results10, go_sem, z0, z1, z2, z3]) rfl ?_
      refine .inl ⟨3, HQ.out, rfl, by decide, Below.trans HB1.out ?_⟩
      repeat (first | exact Below.refl _ _ | apply Below.drew | (refine Below.setCell ?_ ?_ _; rotate_left; focus (first | (simp; done) | (simp; omega) | omega)) | (refine Below.alloc ?_ ?_ _; rotate_left; focus (first | (simp; done) | (simp; omega) | omega)))
theorem RefParse_any (w : World) (S : ByteArray) (hs : S.size ≤ 1000000) :
    Calls Tryd.prog 10 #[.string S] w (RPost S.data.toList w) := by
  by_cases h : 2000 < S.size
  · exact RefParse_long w S hs h
  · obtain ⟨w0, ws, hsp⟩ := sp_form S.data.toList
    cases hsh : shp w0 with
    | none => exact RefParse_none w S (by omega) w0 ws hsp hsh
    | some sh => exact RefParse_run w S (by omega) w0 ws hsp sh hsh
end Go.Proofs.YtonjgfbefhefjaaDoor.Ln
