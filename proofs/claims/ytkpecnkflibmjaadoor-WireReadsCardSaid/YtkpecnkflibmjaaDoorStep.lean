/- The laws' step: one ask of both. -/
import Derived.Test.YtkpecnkflibmjaaDoorRefBigR
import Derived.Test.YtkpecnkflibmjaaDoorWireSame
import Derived.Test.YtkpecnkflibmjaaDoorWireFew
set_option linter.unusedVariables false
set_option linter.unusedSimpArgs false
namespace Go.Proofs.YtkpecnkflibmjaaDoor.Wi
open Go.RowKit Go.Proofs.YtkpecnkflibmjaaDoor.Ow Go.Proofs.YtkpecnkflibmjaaDoor.Be Go.Proofs.YtkpecnkflibmjaaDoor.Cl
attribute [local go_sem ↓] Go.wp_at_zero Go.wp_at_succ
def stS (kind N : Int) (s : ByteArray) (c : Nat) : ByteArray := if kind = 0 then rawS s c 1 else if kind = 1 then rawS s c 1 else if kind = 2 then rawS s c 4 else if kind = 3 then rawS s c 8 else if kind = 4 then rawS s c N.toNat else if kind = 6 then namS s c else if kind = 7 then bigS s c N else txtS s c N
def stC (kind N : Int) (s : ByteArray) (c : Nat) : Nat := if kind = 0 then rawC s c 1 else if kind = 1 then rawC s c 1 else if kind = 2 then rawC s c 4 else if kind = 3 then rawC s c 8 else if kind = 4 then rawC s c N.toNat else if kind = 6 then namC s c else if kind = 7 then bigC s c N else txtC s c N
def Stepped (E : Nat → Value) (b : Nat) (w : World) (s : ByteArray) (c : Nat) (e : Ending) (w' : World) : Prop := e = .returned (.tuple #[inV s c, .bool true]) ∧ IsIn w' b s (evV E c) ∧ w.grownBy w' (some b)
theorem grown_low {a w b' : World} {row : Option Nat} (h : a.grownBy w row) (hb : Below a.heap.size w b') : a.grownBy b' row :=
  ⟨hb.os.trans h.os, hb.tape.trans h.tape, hb.output.trans h.output, Nat.le_trans h.size hb.size, fun k hk hne => (hb.block k hk).trans (h.block k hk hne)⟩
theorem blk_setOther {w : World} {b g T j : Nat} {cs : Array Value} {v : Value} (h : Rg.Blk w b T cs) (hg : b ≠ g) : Rg.Blk (w.setCell ⟨g, j, none⟩ v) b T cs := by
  unfold Rg.Blk at *
  rw [Below.heap_setCell w ⟨g, j, none⟩ v b hg]; exact h
theorem same_rd (w : World) (A B : Option Addr) (n m c d : Nat) (xs : List ByteArray) (hn : xs.length = n) (hm : xs.length = m) (hA : Rd w A (xs.map Value.string)) (hB : Rd w B (xs.map Value.string)) (hx : xs.length ≤ 9223372036854775807) :
    Calls Tryd.prog 28 #[.slice A n c, .slice B m d] w fun e w' => e = .returned (.bool true) ∧ Below w.heap.size w w' := by
  subst hn
  subst hm
  have := same_any w A B c d xs xs hA hB hx
  simpa using this
theorem cell_later {w w' : World} {g : Nat} (h : ∃ m, w.cell? ⟨g, 0, none⟩ = some (.int .i64 m)) (hb : Below w.heap.size w w') : ∃ m, w'.cell? ⟨g, 0, none⟩ = some (.int .i64 m) := by
  obtain ⟨m, hm⟩ := h
  exact ⟨m, (hb.cell (World.block_lt_of_cell? w _ hm)).trans hm⟩
theorem RdS.mono {w : World} {B C : Nat} {A : Option Addr} {xs : List Value} (h : RdS w B A xs) (hC : C ≤ B) : RdS w C A xs := fun j x hx => by
  obtain ⟨g, cur, fz, hA, hB, hh, hc⟩ := h j x hx
  exact ⟨g, cur, fz, hA, Nat.le_trans hC hB, hh, hc⟩
theorem RdS.grown {w w' : World} {B b : Nat} {A : Option Addr} {xs : List Value} (h : RdS w B A xs) (hg : w.grownBy w' (some b)) (hb : b < B) : RdS w' B A xs := fun j x hx => by
  obtain ⟨g, cur, fz, hA, hB, hh, hc⟩ := h j x hx
  exact ⟨g, cur, fz, hA, hB, (hg.block g (Array.getElem?_eq_some_iff.1 hh).1 (fun e => by have := Option.some.inj e; omega)).trans hh, hc⟩
theorem namR_len (s : ByteArray) (c : Nat) (hs : s.size ≤ 1000000) : (namR s c).length ≤ 1000001 := by
  unfold namR
  split
  · rw [namL_length]
    have h1 := Lib.countB_le ⟨#[44]⟩ (by decide) _ (txtR s c 4096) (Nat.le_refl _)
    have h2 := txtR_size s c 4096
    omega
  · exact Nat.zero_le _
set_option maxRecDepth 20000 in
set_option maxHeartbeats 2000000 in
theorem step_0 (w : World) (E : Nat → Value) (b : Nat) (s : ByteArray) (c : Nat) (N : Int) (hN : -9223372036854775808 ≤ N) (hN2 : N ≤ 9223372036854775807) (hs : s.size ≤ 900000) (hE : Errs w E) (hb : Gl b)
    (hM : ∃ m, w.cell? ⟨20, 0, none⟩ = some (.int .i64 m)) (hgm : 20 < b) (h : IsIn w b s (evV E c)) :
    Calls Tryd.prog 34 #[.pointer (some ⟨b, 0, none⟩), inV s c, .agg #[.int .i64 0, .int .i64 N]] w (Stepped E b w (stS 0 N s c) (stC 0 N s c)) := by
  have hS : stS 0 N s c = rawS s c 1 := rfl
  have hC : stC 0 N s c = rawC s c 1 := rfl
  rw [hS, hC]
  clear hS hC
  obtain ⟨s1, hs1⟩ : ∃ s1, rawS s c 1 = s1 := ⟨_, rfl⟩
  obtain ⟨c1, hc1⟩ : ∃ c1, rawC s c 1 = c1 := ⟨_, rfl⟩
  rw [hs1, hc1]
  have H := Lib.hid h
  have HE := Lib.hid hE
  have HM := Lib.hid hM
  obtain ⟨n, hn⟩ : ∃ n, numV (rawR s c 1).data.toList = n := ⟨_, rfl⟩
  have hnl : n < 256 := by rw [← hn]; exact num1_lt s c
  have HREF := Lib.hid (show ∀ W : World, Calls Tryd.prog 51 #[inV s c, .int .i64 1] W (Read2 W s1 c1 (.int .u64 (n : Int))) from fun W => by
    have := RefNumber_any W s c 1 (by decide) (by omega)
    rw [hs1, hc1, hn] at this
    exact this)
  have HIN := Lib.hid (show ∀ W : World, Errs W E → (∃ m, W.cell? ⟨20, 0, none⟩ = some (.int .i64 m)) → IsIn W b s (evV E c) → Calls Tryd.prog 50 #[.pointer (some ⟨b, 0, none⟩)] W (Gave E b W (.int .u8 (n : Int)) s1 c1) from fun W hE hM h => by
    have := InByte_any W E b s c (by omega) hE hb h
    rw [hs1, hc1, hn] at this
    exact this)
  have hwr : IntKind.u64.wrap (n : Int) = n := by simp [IntKind.wrap, IntKind.bits, IntKind.signed]; omega
  have hlt := h.lt
  clear h hE hM hs1 hc1 hn
  unfold inV at HREF ⊢
  go_enter Tryd.func34, Tryd.ntmps34
  go_wp2_with (go_at_call 51; refine (HREF.out _).mono ?_; rintro e w1 ⟨rfl, hb1⟩; unfold inV; have hB6 : Rg.Blk w1 (w.heap.size + 2) 62 #[.string ⟨#[]⟩, .int .i64 0] := (Rg.Blk.newAt (w := (w.alloc (.cells #[.string s, .int .i64 c] 62)).alloc (.cells #[.int .i64 0, .int .i64 N] 66)) (by simp) _ _).below hb1 (by simp); have hB5 : Rg.Blk w1 (w.heap.size + 1) 66 #[.int .i64 0, .int .i64 N] := ((Rg.Blk.newAt (w := w.alloc (.cells #[.string s, .int .i64 c] 62)) (by simp) #[.int .i64 0, .int .i64 N] 66).alloc (.cells #[.string ⟨#[]⟩, .int .i64 0] 62)).below hb1 (by simp); have hz : w.heap.size + 2 < w1.heap.size := (by have := hb1.size; simp at this; omega); have hW1 : Below w.heap.size w w1 := Below.trans (show Below w.heap.size w (((w.alloc (.cells #[.string s, .int .i64 c] 62)).alloc (.cells #[.int .i64 0, .int .i64 N] 66)).alloc (.cells #[.string ⟨#[]⟩, .int .i64 0] 62)) from (((Below.refl _ _).alloc (Nat.le_refl _) _).alloc (by simp) _).alloc (by simp; omega) _) (hb1.mono (by simp; omega)); have HB6 := Lib.hid hB6; have HB5 := Lib.hid hB5; have HZ := Lib.hid hz; have HW1 := Lib.hid hW1; clear hb1 hB6 hB5 hz hW1)
  have hX8 : Rg.Blk (w1.alloc (.cells #[.string s1, .int .i64 c1] 62)) w1.heap.size 62 #[.string s1, .int .i64 c1] := Rg.Blk.new w1 _ _
  have hX6 := HB6.out.alloc (.cells #[.string s1, .int .i64 c1] 62)
  have hX5 := HB5.out.alloc (.cells #[.string s1, .int .i64 c1] 62)
  have hXW : Below w.heap.size w (w1.alloc (.cells #[.string s1, .int .i64 c1] 62)) := HW1.out.alloc HW1.out.size _
  have hXZ : (w1.alloc (.cells #[.string s1, .int .i64 c1] 62)).heap.size = w1.heap.size + 1 := by simp
  generalize w1.alloc (.cells #[.string s1, .int .i64 c1] 62) = X at *
  have n5 := hX5.cell 1 (v := .int .i64 N) rfl
  have t0 := hX8.cell 0 (v := .string s1) rfl
  have t1 := hX8.cell 1 (v := .int .i64 c1) rfl
  have HX8 := Lib.hid (hX8.below (Below.drew (Below.refl _ _)) hX8.lt)
  have HX6 := Lib.hid (hX6.below (Below.drew (Below.refl _ _)) hX6.lt)
  have HX5 := Lib.hid (hX5.below (Below.drew (Below.refl _ _)) hX5.lt)
  have HXW := Lib.hid hXW
  have HXZ := Lib.hid hXZ
  have hz8 : w.heap.size + 2 < w1.heap.size := HZ.out
  have hna : ¬ w1.heap.size = w.heap.size + 1 + 1 := by omega
  have hnb : ¬ w.heap.size + 1 + 1 = w1.heap.size := by omega
  clear hX8 hX6 hX5 hXW hXZ
  go_region_held3 (fun w' => w'.cell? ⟨w1.heap.size, 0, none⟩ = some (.string s1) ∧ w'.cell? ⟨w1.heap.size, 1, none⟩ = some (.int .i64 c1)) (first | go_keep | (go_split_ands; (repeat' apply And.intro) <;> (simp [*] <;> omega)))
    ((go_at_call 50; refine (HIN.out _ (HE.out.below (HXW.out.trans (Below.drew (Below.refl _ _)))) (cell_later HM.out (HXW.out.trans (Below.drew (Below.refl _ _)))) (H.out.below (HXW.out.trans (Below.drew (Below.refl _ _))) hlt)).mono ?_; rintro e w2 ⟨rfl, h2, hg2⟩; have b8 : Rg.Blk w2 w1.heap.size 62 #[.string s1, .int .i64 c1] := blk_grown HX8.out hg2 (by have := HZ.out; omega); have b6 : Rg.Blk w2 (w.heap.size + 2) 62 #[.string ⟨#[]⟩, .int .i64 0] := blk_grown HX6.out hg2 (by omega); have b5 : Rg.Blk w2 (w.heap.size + 1) 66 #[.int .i64 0, .int .i64 N] := blk_grown HX5.out hg2 (by omega); have u0 := b8.cell 0 (v := .string s1) rfl; have u1 := b8.cell 1 (v := .int .i64 c1) rfl; have p0 := b6.cell 0 (v := .string ⟨#[]⟩) rfl; have p1 := b6.cell 1 (v := .int .i64 0) rfl; have f0 := b6.frozen 0; have f1 := b6.frozen 1; have v5 := b5.cell 1 (v := .int .i64 N) rfl; have H2 := Lib.hid h2; have HG2 := Lib.hid hg2; clear h2 hg2 b8 b6 b5))
  all_goals go_wp2_with fail
  refine bodyPost_ret (v := .tuple #[.agg #[.string s1, .int .i64 c1], .bool true]) (by simp [results, Tryd.results34, go_sem, p0, p1]) rfl ?_
  refine ⟨rfl, ?_, ?_⟩
  · exact blk_setOther (blk_setOther H2.out (by omega)) (by omega)
  · have h5 := World.grownBy.trans (grown_low (World.grownBy.refl w (some b)) (HXW.out.trans (Below.drew (Below.refl _ _)))) HG2.out
    exact grown_low (grown_low h5 (Below.setCell (Below.refl _ _) (by simp; omega) _)) (Below.setCell (Below.refl _ _) (by simp; omega) _)
set_option maxRecDepth 20000 in
set_option maxHeartbeats 2000000 in
theorem step_1 (w : World) (E : Nat → Value) (b : Nat) (s : ByteArray) (c : Nat) (N : Int) (hN : -9223372036854775808 ≤ N) (hN2 : N ≤ 9223372036854775807) (hs : s.size ≤ 900000) (hE : Errs w E) (hb : Gl b)
    (hM : ∃ m, w.cell? ⟨20, 0, none⟩ = some (.int .i64 m)) (hgm : 20 < b) (h : IsIn w b s (evV E c)) :
    Calls Tryd.prog 34 #[.pointer (some ⟨b, 0, none⟩), inV s c, .agg #[.int .i64 1, .int .i64 N]] w (Stepped E b w (stS 1 N s c) (stC 1 N s c)) := by
  have hS : stS 1 N s c = rawS s c 1 := rfl
  have hC : stC 1 N s c = rawC s c 1 := rfl
  rw [hS, hC]
  clear hS hC
  obtain ⟨s1, hs1⟩ : ∃ s1, rawS s c 1 = s1 := ⟨_, rfl⟩
  obtain ⟨c1, hc1⟩ : ∃ c1, rawC s c 1 = c1 := ⟨_, rfl⟩
  rw [hs1, hc1]
  have H := Lib.hid h
  have HE := Lib.hid hE
  have HM := Lib.hid hM
  obtain ⟨n, hn⟩ : ∃ n, numV (rawR s c 1).data.toList = n := ⟨_, rfl⟩
  have hnl : n < 256 := by rw [← hn]; exact num1_lt s c
  have HREF := Lib.hid (show ∀ W : World, Calls Tryd.prog 51 #[inV s c, .int .i64 1] W (Read2 W s1 c1 (.int .u64 (n : Int))) from fun W => by
    have := RefNumber_any W s c 1 (by decide) (by omega)
    rw [hs1, hc1, hn] at this
    exact this)
  have HIN := Lib.hid (show ∀ W : World, Errs W E → (∃ m, W.cell? ⟨20, 0, none⟩ = some (.int .i64 m)) → IsIn W b s (evV E c) → Calls Tryd.prog 31 #[.pointer (some ⟨b, 0, none⟩)] W (Gave E b W (.bool (n != 0)) s1 c1) from fun W hE hM h => by
    have := InBool_any W E b s c (by omega) hE hb h
    rw [hs1, hc1, hn] at this
    exact this)
  have hlt := h.lt
  clear h hE hM hs1 hc1 hn
  by_cases hn0 : n = 0
  rotate_left
  · have hb1 : (n != 0) = true := by simpa using hn0
    have hb2 : ((n : Int) == 0) = false := by rw [beq_eq_false_iff_ne]; omega
    rw [hb1] at HIN
    unfold inV at HREF ⊢
    go_enter Tryd.func34, Tryd.ntmps34
    go_wp2_with (go_at_call 51; refine (HREF.out _).mono ?_; rintro e w1 ⟨rfl, hb1⟩; unfold inV; have hB6 : Rg.Blk w1 (w.heap.size + 2) 62 #[.string ⟨#[]⟩, .int .i64 0] := (Rg.Blk.newAt (w := (w.alloc (.cells #[.string s, .int .i64 c] 62)).alloc (.cells #[.int .i64 1, .int .i64 N] 66)) (by simp) _ _).below hb1 (by simp); have hB5 : Rg.Blk w1 (w.heap.size + 1) 66 #[.int .i64 1, .int .i64 N] := ((Rg.Blk.newAt (w := w.alloc (.cells #[.string s, .int .i64 c] 62)) (by simp) #[.int .i64 1, .int .i64 N] 66).alloc (.cells #[.string ⟨#[]⟩, .int .i64 0] 62)).below hb1 (by simp); have hz : w.heap.size + 2 < w1.heap.size := (by have := hb1.size; simp at this; omega); have hW1 : Below w.heap.size w w1 := Below.trans (show Below w.heap.size w (((w.alloc (.cells #[.string s, .int .i64 c] 62)).alloc (.cells #[.int .i64 1, .int .i64 N] 66)).alloc (.cells #[.string ⟨#[]⟩, .int .i64 0] 62)) from (((Below.refl _ _).alloc (Nat.le_refl _) _).alloc (by simp) _).alloc (by simp; omega) _) (hb1.mono (by simp; omega)); have HB6 := Lib.hid hB6; have HB5 := Lib.hid hB5; have HZ := Lib.hid hz; have HW1 := Lib.hid hW1; clear hb1 hB6 hB5 hz hW1)
    have hX8 : Rg.Blk (w1.alloc (.cells #[.string s1, .int .i64 c1] 62)) w1.heap.size 62 #[.string s1, .int .i64 c1] := Rg.Blk.new w1 _ _
    have hX6 := HB6.out.alloc (.cells #[.string s1, .int .i64 c1] 62)
    have hX5 := HB5.out.alloc (.cells #[.string s1, .int .i64 c1] 62)
    have hXW : Below w.heap.size w (w1.alloc (.cells #[.string s1, .int .i64 c1] 62)) := HW1.out.alloc HW1.out.size _
    have hXZ : (w1.alloc (.cells #[.string s1, .int .i64 c1] 62)).heap.size = w1.heap.size + 1 := by simp
    generalize w1.alloc (.cells #[.string s1, .int .i64 c1] 62) = X at *
    have n5 := hX5.cell 1 (v := .int .i64 N) rfl
    have t0 := hX8.cell 0 (v := .string s1) rfl
    have t1 := hX8.cell 1 (v := .int .i64 c1) rfl
    have HX8 := Lib.hid (hX8.below (Below.drew (Below.refl _ _)) hX8.lt)
    have HX6 := Lib.hid (hX6.below (Below.drew (Below.refl _ _)) hX6.lt)
    have HX5 := Lib.hid (hX5.below (Below.drew (Below.refl _ _)) hX5.lt)
    have HXW := Lib.hid hXW
    have HXZ := Lib.hid hXZ
    have hz8 : w.heap.size + 2 < w1.heap.size := HZ.out
    have hna : ¬ w1.heap.size = w.heap.size + 1 + 1 := by omega
    have hnb : ¬ w.heap.size + 1 + 1 = w1.heap.size := by omega
    clear hX8 hX6 hX5 hXW hXZ
    go_region_held3 (fun w' => w'.cell? ⟨w1.heap.size, 0, none⟩ = some (.string s1) ∧ w'.cell? ⟨w1.heap.size, 1, none⟩ = some (.int .i64 c1)) (first | go_keep | (go_split_ands; (repeat' apply And.intro) <;> (simp [*] <;> omega)))
      ((go_at_call 31; refine (HIN.out _ (HE.out.below (HXW.out.trans (Below.drew (Below.refl _ _)))) (cell_later HM.out (HXW.out.trans (Below.drew (Below.refl _ _)))) (H.out.below (HXW.out.trans (Below.drew (Below.refl _ _))) hlt)).mono ?_; rintro e w2 ⟨rfl, h2, hg2⟩; have b8 : Rg.Blk w2 w1.heap.size 62 #[.string s1, .int .i64 c1] := blk_grown HX8.out hg2 (by have := HZ.out; omega); have b6 : Rg.Blk w2 (w.heap.size + 2) 62 #[.string ⟨#[]⟩, .int .i64 0] := blk_grown HX6.out hg2 (by omega); have b5 : Rg.Blk w2 (w.heap.size + 1) 66 #[.int .i64 1, .int .i64 N] := blk_grown HX5.out hg2 (by omega); have u0 := b8.cell 0 (v := .string s1) rfl; have u1 := b8.cell 1 (v := .int .i64 c1) rfl; have p0 := b6.cell 0 (v := .string ⟨#[]⟩) rfl; have p1 := b6.cell 1 (v := .int .i64 0) rfl; have f0 := b6.frozen 0; have f1 := b6.frozen 1; have v5 := b5.cell 1 (v := .int .i64 N) rfl; have H2 := Lib.hid h2; have HG2 := Lib.hid hg2; clear h2 hg2 b8 b6 b5))
    all_goals go_wp2_with fail
    refine bodyPost_ret (v := .tuple #[.agg #[.string s1, .int .i64 c1], .bool true]) (by simp [results, Tryd.results34, go_sem, p0, p1, hn0]) rfl ?_
    refine ⟨rfl, ?_, ?_⟩
    · exact blk_setOther (blk_setOther H2.out (by omega)) (by omega)
    · have h5 := World.grownBy.trans (grown_low (World.grownBy.refl w (some b)) (HXW.out.trans (Below.drew (Below.refl _ _)))) HG2.out
      exact grown_low (grown_low h5 (Below.setCell (Below.refl _ _) (by simp; omega) _)) (Below.setCell (Below.refl _ _) (by simp; omega) _)
  · subst hn0
    have hb1 : ((0 : Nat) != 0) = false := rfl
    rw [hb1] at HIN
    unfold inV at HREF ⊢
    go_enter Tryd.func34, Tryd.ntmps34
    go_wp2_with (go_at_call 51; refine (HREF.out _).mono ?_; rintro e w1 ⟨rfl, hb1⟩; unfold inV; have hB6 : Rg.Blk w1 (w.heap.size + 2) 62 #[.string ⟨#[]⟩, .int .i64 0] := (Rg.Blk.newAt (w := (w.alloc (.cells #[.string s, .int .i64 c] 62)).alloc (.cells #[.int .i64 1, .int .i64 N] 66)) (by simp) _ _).below hb1 (by simp); have hB5 : Rg.Blk w1 (w.heap.size + 1) 66 #[.int .i64 1, .int .i64 N] := ((Rg.Blk.newAt (w := w.alloc (.cells #[.string s, .int .i64 c] 62)) (by simp) #[.int .i64 1, .int .i64 N] 66).alloc (.cells #[.string ⟨#[]⟩, .int .i64 0] 62)).below hb1 (by simp); have hz : w.heap.size + 2 < w1.heap.size := (by have := hb1.size; simp at this; omega); have hW1 : Below w.heap.size w w1 := Below.trans (show Below w.heap.size w (((w.alloc (.cells #[.string s, .int .i64 c] 62)).alloc (.cells #[.int .i64 1, .int .i64 N] 66)).alloc (.cells #[.string ⟨#[]⟩, .int .i64 0] 62)) from (((Below.refl _ _).alloc (Nat.le_refl _) _).alloc (by simp) _).alloc (by simp; omega) _) (hb1.mono (by simp; omega)); have HB6 := Lib.hid hB6; have HB5 := Lib.hid hB5; have HZ := Lib.hid hz; have HW1 := Lib.hid hW1; clear hb1 hB6 hB5 hz hW1)
    have hX8 : Rg.Blk (w1.alloc (.cells #[.string s1, .int .i64 c1] 62)) w1.heap.size 62 #[.string s1, .int .i64 c1] := Rg.Blk.new w1 _ _
    have hX6 := HB6.out.alloc (.cells #[.string s1, .int .i64 c1] 62)
    have hX5 := HB5.out.alloc (.cells #[.string s1, .int .i64 c1] 62)
    have hXW : Below w.heap.size w (w1.alloc (.cells #[.string s1, .int .i64 c1] 62)) := HW1.out.alloc HW1.out.size _
    have hXZ : (w1.alloc (.cells #[.string s1, .int .i64 c1] 62)).heap.size = w1.heap.size + 1 := by simp
    generalize w1.alloc (.cells #[.string s1, .int .i64 c1] 62) = X at *
    have n5 := hX5.cell 1 (v := .int .i64 N) rfl
    have t0 := hX8.cell 0 (v := .string s1) rfl
    have t1 := hX8.cell 1 (v := .int .i64 c1) rfl
    have HX8 := Lib.hid (hX8.below (Below.drew (Below.refl _ _)) hX8.lt)
    have HX6 := Lib.hid (hX6.below (Below.drew (Below.refl _ _)) hX6.lt)
    have HX5 := Lib.hid (hX5.below (Below.drew (Below.refl _ _)) hX5.lt)
    have HXW := Lib.hid hXW
    have HXZ := Lib.hid hXZ
    have hz8 : w.heap.size + 2 < w1.heap.size := HZ.out
    have hna : ¬ w1.heap.size = w.heap.size + 1 + 1 := by omega
    have hnb : ¬ w.heap.size + 1 + 1 = w1.heap.size := by omega
    clear hX8 hX6 hX5 hXW hXZ
    go_region_held3 (fun w' => w'.cell? ⟨w1.heap.size, 0, none⟩ = some (.string s1) ∧ w'.cell? ⟨w1.heap.size, 1, none⟩ = some (.int .i64 c1)) (first | go_keep | (go_split_ands; (repeat' apply And.intro) <;> (simp [*] <;> omega)))
      ((go_at_call 31; refine (HIN.out _ (HE.out.below (HXW.out.trans (Below.drew (Below.refl _ _)))) (cell_later HM.out (HXW.out.trans (Below.drew (Below.refl _ _)))) (H.out.below (HXW.out.trans (Below.drew (Below.refl _ _))) hlt)).mono ?_; rintro e w2 ⟨rfl, h2, hg2⟩; have b8 : Rg.Blk w2 w1.heap.size 62 #[.string s1, .int .i64 c1] := blk_grown HX8.out hg2 (by have := HZ.out; omega); have b6 : Rg.Blk w2 (w.heap.size + 2) 62 #[.string ⟨#[]⟩, .int .i64 0] := blk_grown HX6.out hg2 (by omega); have b5 : Rg.Blk w2 (w.heap.size + 1) 66 #[.int .i64 1, .int .i64 N] := blk_grown HX5.out hg2 (by omega); have u0 := b8.cell 0 (v := .string s1) rfl; have u1 := b8.cell 1 (v := .int .i64 c1) rfl; have p0 := b6.cell 0 (v := .string ⟨#[]⟩) rfl; have p1 := b6.cell 1 (v := .int .i64 0) rfl; have f0 := b6.frozen 0; have f1 := b6.frozen 1; have v5 := b5.cell 1 (v := .int .i64 N) rfl; have H2 := Lib.hid h2; have HG2 := Lib.hid hg2; clear h2 hg2 b8 b6 b5))
    all_goals go_wp2_with fail
    refine bodyPost_ret (v := .tuple #[.agg #[.string s1, .int .i64 c1], .bool true]) (by simp [results, Tryd.results34, go_sem, p0, p1]) rfl ?_
    refine ⟨rfl, ?_, ?_⟩
    · exact blk_setOther (blk_setOther H2.out (by omega)) (by omega)
    · have h5 := World.grownBy.trans (grown_low (World.grownBy.refl w (some b)) (HXW.out.trans (Below.drew (Below.refl _ _)))) HG2.out
      exact grown_low (grown_low h5 (Below.setCell (Below.refl _ _) (by simp; omega) _)) (Below.setCell (Below.refl _ _) (by simp; omega) _)
set_option maxRecDepth 20000 in
set_option maxHeartbeats 2000000 in
theorem step_2 (w : World) (E : Nat → Value) (b : Nat) (s : ByteArray) (c : Nat) (N : Int) (hN : -9223372036854775808 ≤ N) (hN2 : N ≤ 9223372036854775807) (hs : s.size ≤ 900000) (hE : Errs w E) (hb : Gl b)
    (hM : ∃ m, w.cell? ⟨20, 0, none⟩ = some (.int .i64 m)) (hgm : 20 < b) (h : IsIn w b s (evV E c)) :
    Calls Tryd.prog 34 #[.pointer (some ⟨b, 0, none⟩), inV s c, .agg #[.int .i64 2, .int .i64 N]] w (Stepped E b w (stS 2 N s c) (stC 2 N s c)) := by
  have hS : stS 2 N s c = rawS s c 4 := rfl
  have hC : stC 2 N s c = rawC s c 4 := rfl
  rw [hS, hC]
  clear hS hC
  obtain ⟨s1, hs1⟩ : ∃ s1, rawS s c 4 = s1 := ⟨_, rfl⟩
  obtain ⟨c1, hc1⟩ : ∃ c1, rawC s c 4 = c1 := ⟨_, rfl⟩
  rw [hs1, hc1]
  have H := Lib.hid h
  have HE := Lib.hid hE
  have HM := Lib.hid hM
  obtain ⟨n, hn⟩ : ∃ n, numV (rawR s c 4).data.toList = n := ⟨_, rfl⟩
  have hnl : n < 4294967296 := by rw [← hn]; exact num4_lt s c
  have HREF := Lib.hid (show ∀ W : World, Calls Tryd.prog 51 #[inV s c, .int .i64 4] W (Read2 W s1 c1 (.int .u64 (n : Int))) from fun W => by
    have := RefNumber_any W s c 4 (by decide) (by omega)
    rw [hs1, hc1, hn] at this
    exact this)
  have HIN := Lib.hid (show ∀ W : World, Errs W E → (∃ m, W.cell? ⟨20, 0, none⟩ = some (.int .i64 m)) → IsIn W b s (evV E c) → Calls Tryd.prog 45 #[.pointer (some ⟨b, 0, none⟩)] W (Gave E b W (.int .u32 (n : Int)) s1 c1) from fun W hE hM h => by
    have := InU32_any W E b s c (by omega) hE hb h
    rw [hs1, hc1, hn] at this
    exact this)
  have hwr : IntKind.u64.wrap (n : Int) = n := by simp [IntKind.wrap, IntKind.bits, IntKind.signed]; omega
  have hlt := h.lt
  clear h hE hM hs1 hc1 hn
  unfold inV at HREF ⊢
  go_enter Tryd.func34, Tryd.ntmps34
  go_wp2_with (go_at_call 51; refine (HREF.out _).mono ?_; rintro e w1 ⟨rfl, hb1⟩; unfold inV; have hB6 : Rg.Blk w1 (w.heap.size + 2) 62 #[.string ⟨#[]⟩, .int .i64 0] := (Rg.Blk.newAt (w := (w.alloc (.cells #[.string s, .int .i64 c] 62)).alloc (.cells #[.int .i64 2, .int .i64 N] 66)) (by simp) _ _).below hb1 (by simp); have hB5 : Rg.Blk w1 (w.heap.size + 1) 66 #[.int .i64 2, .int .i64 N] := ((Rg.Blk.newAt (w := w.alloc (.cells #[.string s, .int .i64 c] 62)) (by simp) #[.int .i64 2, .int .i64 N] 66).alloc (.cells #[.string ⟨#[]⟩, .int .i64 0] 62)).below hb1 (by simp); have hz : w.heap.size + 2 < w1.heap.size := (by have := hb1.size; simp at this; omega); have hW1 : Below w.heap.size w w1 := Below.trans (show Below w.heap.size w (((w.alloc (.cells #[.string s, .int .i64 c] 62)).alloc (.cells #[.int .i64 2, .int .i64 N] 66)).alloc (.cells #[.string ⟨#[]⟩, .int .i64 0] 62)) from (((Below.refl _ _).alloc (Nat.le_refl _) _).alloc (by simp) _).alloc (by simp; omega) _) (hb1.mono (by simp; omega)); have HB6 := Lib.hid hB6; have HB5 := Lib.hid hB5; have HZ := Lib.hid hz; have HW1 := Lib.hid hW1; clear hb1 hB6 hB5 hz hW1)
  have hX8 : Rg.Blk (w1.alloc (.cells #[.string s1, .int .i64 c1] 62)) w1.heap.size 62 #[.string s1, .int .i64 c1] := Rg.Blk.new w1 _ _
  have hX6 := HB6.out.alloc (.cells #[.string s1, .int .i64 c1] 62)
  have hX5 := HB5.out.alloc (.cells #[.string s1, .int .i64 c1] 62)
  have hXW : Below w.heap.size w (w1.alloc (.cells #[.string s1, .int .i64 c1] 62)) := HW1.out.alloc HW1.out.size _
  have hXZ : (w1.alloc (.cells #[.string s1, .int .i64 c1] 62)).heap.size = w1.heap.size + 1 := by simp
  generalize w1.alloc (.cells #[.string s1, .int .i64 c1] 62) = X at *
  have n5 := hX5.cell 1 (v := .int .i64 N) rfl
  have t0 := hX8.cell 0 (v := .string s1) rfl
  have t1 := hX8.cell 1 (v := .int .i64 c1) rfl
  have HX8 := Lib.hid (hX8.below (Below.drew (Below.refl _ _)) hX8.lt)
  have HX6 := Lib.hid (hX6.below (Below.drew (Below.refl _ _)) hX6.lt)
  have HX5 := Lib.hid (hX5.below (Below.drew (Below.refl _ _)) hX5.lt)
  have HXW := Lib.hid hXW
  have HXZ := Lib.hid hXZ
  have hz8 : w.heap.size + 2 < w1.heap.size := HZ.out
  have hna : ¬ w1.heap.size = w.heap.size + 1 + 1 := by omega
  have hnb : ¬ w.heap.size + 1 + 1 = w1.heap.size := by omega
  clear hX8 hX6 hX5 hXW hXZ
  go_region_held3 (fun w' => w'.cell? ⟨w1.heap.size, 0, none⟩ = some (.string s1) ∧ w'.cell? ⟨w1.heap.size, 1, none⟩ = some (.int .i64 c1)) (first | go_keep | (go_split_ands; (repeat' apply And.intro) <;> (simp [*] <;> omega)))
    ((go_at_call 45; refine (HIN.out _ (HE.out.below (HXW.out.trans (Below.drew (Below.refl _ _)))) (cell_later HM.out (HXW.out.trans (Below.drew (Below.refl _ _)))) (H.out.below (HXW.out.trans (Below.drew (Below.refl _ _))) hlt)).mono ?_; rintro e w2 ⟨rfl, h2, hg2⟩; have b8 : Rg.Blk w2 w1.heap.size 62 #[.string s1, .int .i64 c1] := blk_grown HX8.out hg2 (by have := HZ.out; omega); have b6 : Rg.Blk w2 (w.heap.size + 2) 62 #[.string ⟨#[]⟩, .int .i64 0] := blk_grown HX6.out hg2 (by omega); have b5 : Rg.Blk w2 (w.heap.size + 1) 66 #[.int .i64 2, .int .i64 N] := blk_grown HX5.out hg2 (by omega); have u0 := b8.cell 0 (v := .string s1) rfl; have u1 := b8.cell 1 (v := .int .i64 c1) rfl; have p0 := b6.cell 0 (v := .string ⟨#[]⟩) rfl; have p1 := b6.cell 1 (v := .int .i64 0) rfl; have f0 := b6.frozen 0; have f1 := b6.frozen 1; have v5 := b5.cell 1 (v := .int .i64 N) rfl; have H2 := Lib.hid h2; have HG2 := Lib.hid hg2; clear h2 hg2 b8 b6 b5))
  all_goals go_wp2_with fail
  refine bodyPost_ret (v := .tuple #[.agg #[.string s1, .int .i64 c1], .bool true]) (by simp [results, Tryd.results34, go_sem, p0, p1]) rfl ?_
  refine ⟨rfl, ?_, ?_⟩
  · exact blk_setOther (blk_setOther H2.out (by omega)) (by omega)
  · have h5 := World.grownBy.trans (grown_low (World.grownBy.refl w (some b)) (HXW.out.trans (Below.drew (Below.refl _ _)))) HG2.out
    exact grown_low (grown_low h5 (Below.setCell (Below.refl _ _) (by simp; omega) _)) (Below.setCell (Below.refl _ _) (by simp; omega) _)
set_option maxRecDepth 20000 in
set_option maxHeartbeats 2000000 in
theorem step_3 (w : World) (E : Nat → Value) (b : Nat) (s : ByteArray) (c : Nat) (N : Int) (hN : -9223372036854775808 ≤ N) (hN2 : N ≤ 9223372036854775807) (hs : s.size ≤ 900000) (hE : Errs w E) (hb : Gl b)
    (hM : ∃ m, w.cell? ⟨20, 0, none⟩ = some (.int .i64 m)) (hgm : 20 < b) (h : IsIn w b s (evV E c)) :
    Calls Tryd.prog 34 #[.pointer (some ⟨b, 0, none⟩), inV s c, .agg #[.int .i64 3, .int .i64 N]] w (Stepped E b w (stS 3 N s c) (stC 3 N s c)) := by
  have hS : stS 3 N s c = rawS s c 8 := rfl
  have hC : stC 3 N s c = rawC s c 8 := rfl
  rw [hS, hC]
  clear hS hC
  obtain ⟨s1, hs1⟩ : ∃ s1, rawS s c 8 = s1 := ⟨_, rfl⟩
  obtain ⟨c1, hc1⟩ : ∃ c1, rawC s c 8 = c1 := ⟨_, rfl⟩
  rw [hs1, hc1]
  have H := Lib.hid h
  have HE := Lib.hid hE
  have HM := Lib.hid hM
  obtain ⟨n, hn⟩ : ∃ n, numV (rawR s c 8).data.toList = n := ⟨_, rfl⟩
  have HREF := Lib.hid (show ∀ W : World, Calls Tryd.prog 51 #[inV s c, .int .i64 8] W (Read2 W s1 c1 (.int .u64 (n : Int))) from fun W => by
    have := RefNumber_any W s c 8 (by decide) (by omega)
    rw [hs1, hc1, hn] at this
    exact this)
  have HIN := Lib.hid (show ∀ W : World, Errs W E → (∃ m, W.cell? ⟨20, 0, none⟩ = some (.int .i64 m)) → IsIn W b s (evV E c) → Calls Tryd.prog 26 #[.pointer (some ⟨b, 0, none⟩)] W (Gave E b W (.int .u64 (n : Int)) s1 c1) from fun W hE hM h => by
    have := InU64_any W E b s c (by omega) hE hb h
    rw [hs1, hc1, hn] at this
    exact this)
  have hlt := h.lt
  clear h hE hM hs1 hc1 hn
  unfold inV at HREF ⊢
  go_enter Tryd.func34, Tryd.ntmps34
  go_wp2_with (go_at_call 51; refine (HREF.out _).mono ?_; rintro e w1 ⟨rfl, hb1⟩; unfold inV; have hB6 : Rg.Blk w1 (w.heap.size + 2) 62 #[.string ⟨#[]⟩, .int .i64 0] := (Rg.Blk.newAt (w := (w.alloc (.cells #[.string s, .int .i64 c] 62)).alloc (.cells #[.int .i64 3, .int .i64 N] 66)) (by simp) _ _).below hb1 (by simp); have hB5 : Rg.Blk w1 (w.heap.size + 1) 66 #[.int .i64 3, .int .i64 N] := ((Rg.Blk.newAt (w := w.alloc (.cells #[.string s, .int .i64 c] 62)) (by simp) #[.int .i64 3, .int .i64 N] 66).alloc (.cells #[.string ⟨#[]⟩, .int .i64 0] 62)).below hb1 (by simp); have hz : w.heap.size + 2 < w1.heap.size := (by have := hb1.size; simp at this; omega); have hW1 : Below w.heap.size w w1 := Below.trans (show Below w.heap.size w (((w.alloc (.cells #[.string s, .int .i64 c] 62)).alloc (.cells #[.int .i64 3, .int .i64 N] 66)).alloc (.cells #[.string ⟨#[]⟩, .int .i64 0] 62)) from (((Below.refl _ _).alloc (Nat.le_refl _) _).alloc (by simp) _).alloc (by simp; omega) _) (hb1.mono (by simp; omega)); have HB6 := Lib.hid hB6; have HB5 := Lib.hid hB5; have HZ := Lib.hid hz; have HW1 := Lib.hid hW1; clear hb1 hB6 hB5 hz hW1)
  have hX8 : Rg.Blk (w1.alloc (.cells #[.string s1, .int .i64 c1] 62)) w1.heap.size 62 #[.string s1, .int .i64 c1] := Rg.Blk.new w1 _ _
  have hX6 := HB6.out.alloc (.cells #[.string s1, .int .i64 c1] 62)
  have hX5 := HB5.out.alloc (.cells #[.string s1, .int .i64 c1] 62)
  have hXW : Below w.heap.size w (w1.alloc (.cells #[.string s1, .int .i64 c1] 62)) := HW1.out.alloc HW1.out.size _
  have hXZ : (w1.alloc (.cells #[.string s1, .int .i64 c1] 62)).heap.size = w1.heap.size + 1 := by simp
  generalize w1.alloc (.cells #[.string s1, .int .i64 c1] 62) = X at *
  have n5 := hX5.cell 1 (v := .int .i64 N) rfl
  have t0 := hX8.cell 0 (v := .string s1) rfl
  have t1 := hX8.cell 1 (v := .int .i64 c1) rfl
  have HX8 := Lib.hid (hX8.below (Below.drew (Below.refl _ _)) hX8.lt)
  have HX6 := Lib.hid (hX6.below (Below.drew (Below.refl _ _)) hX6.lt)
  have HX5 := Lib.hid (hX5.below (Below.drew (Below.refl _ _)) hX5.lt)
  have HXW := Lib.hid hXW
  have HXZ := Lib.hid hXZ
  have hz8 : w.heap.size + 2 < w1.heap.size := HZ.out
  have hna : ¬ w1.heap.size = w.heap.size + 1 + 1 := by omega
  have hnb : ¬ w.heap.size + 1 + 1 = w1.heap.size := by omega
  clear hX8 hX6 hX5 hXW hXZ
  go_region_held3 (fun w' => w'.cell? ⟨w1.heap.size, 0, none⟩ = some (.string s1) ∧ w'.cell? ⟨w1.heap.size, 1, none⟩ = some (.int .i64 c1)) (first | go_keep | (go_split_ands; (repeat' apply And.intro) <;> (simp [*] <;> omega)))
    ((go_at_call 26; refine (HIN.out _ (HE.out.below (HXW.out.trans (Below.drew (Below.refl _ _)))) (cell_later HM.out (HXW.out.trans (Below.drew (Below.refl _ _)))) (H.out.below (HXW.out.trans (Below.drew (Below.refl _ _))) hlt)).mono ?_; rintro e w2 ⟨rfl, h2, hg2⟩; have b8 : Rg.Blk w2 w1.heap.size 62 #[.string s1, .int .i64 c1] := blk_grown HX8.out hg2 (by have := HZ.out; omega); have b6 : Rg.Blk w2 (w.heap.size + 2) 62 #[.string ⟨#[]⟩, .int .i64 0] := blk_grown HX6.out hg2 (by omega); have b5 : Rg.Blk w2 (w.heap.size + 1) 66 #[.int .i64 3, .int .i64 N] := blk_grown HX5.out hg2 (by omega); have u0 := b8.cell 0 (v := .string s1) rfl; have u1 := b8.cell 1 (v := .int .i64 c1) rfl; have p0 := b6.cell 0 (v := .string ⟨#[]⟩) rfl; have p1 := b6.cell 1 (v := .int .i64 0) rfl; have f0 := b6.frozen 0; have f1 := b6.frozen 1; have v5 := b5.cell 1 (v := .int .i64 N) rfl; have H2 := Lib.hid h2; have HG2 := Lib.hid hg2; clear h2 hg2 b8 b6 b5))
  all_goals go_wp2_with fail
  refine bodyPost_ret (v := .tuple #[.agg #[.string s1, .int .i64 c1], .bool true]) (by simp [results, Tryd.results34, go_sem, p0, p1]) rfl ?_
  refine ⟨rfl, ?_, ?_⟩
  · exact blk_setOther (blk_setOther H2.out (by omega)) (by omega)
  · have h5 := World.grownBy.trans (grown_low (World.grownBy.refl w (some b)) (HXW.out.trans (Below.drew (Below.refl _ _)))) HG2.out
    exact grown_low (grown_low h5 (Below.setCell (Below.refl _ _) (by simp; omega) _)) (Below.setCell (Below.refl _ _) (by simp; omega) _)
set_option maxRecDepth 20000 in
set_option maxHeartbeats 2000000 in
theorem step_4 (w : World) (E : Nat → Value) (b : Nat) (s : ByteArray) (c : Nat) (N : Int) (hN : -9223372036854775808 ≤ N) (hN2 : N ≤ 9223372036854775807) (hs : s.size ≤ 900000) (hE : Errs w E) (hb : Gl b)
    (hM : ∃ m, w.cell? ⟨20, 0, none⟩ = some (.int .i64 m)) (hgm : 20 < b) (h : IsIn w b s (evV E c)) :
    Calls Tryd.prog 34 #[.pointer (some ⟨b, 0, none⟩), inV s c, .agg #[.int .i64 4, .int .i64 N]] w (Stepped E b w (stS 4 N s c) (stC 4 N s c)) := by
  have hS : stS 4 N s c = rawS s c N.toNat := rfl
  have hC : stC 4 N s c = rawC s c N.toNat := rfl
  rw [hS, hC]
  clear hS hC
  obtain ⟨s1, hs1⟩ : ∃ s1, rawS s c N.toNat = s1 := ⟨_, rfl⟩
  obtain ⟨c1, hc1⟩ : ∃ c1, rawC s c N.toNat = c1 := ⟨_, rfl⟩
  rw [hs1, hc1]
  have H := Lib.hid h
  have HE := Lib.hid hE
  have HM := Lib.hid hM
  obtain ⟨r, hr⟩ : ∃ r, rawR s c N.toNat = r := ⟨_, rfl⟩
  have HREF := Lib.hid (show ∀ W : World, Calls Tryd.prog 52 #[inV s c, .int .i64 N] W (Read2 W s1 c1 (.string r)) from fun W => by
    have := RefRaw_any W s c N hN2 (by omega)
    rw [hs1, hc1, hr] at this
    exact this)
  have HIN := Lib.hid (show ∀ W : World, Errs W E → (∃ m, W.cell? ⟨20, 0, none⟩ = some (.int .i64 m)) → IsIn W b s (evV E c) → Calls Tryd.prog 47 #[.pointer (some ⟨b, 0, none⟩), .int .i64 N] W (Gave E b W (.string r) s1 c1) from fun W hE hM h => by
    have := InRaw_any W E b s c N hN2 (by omega) hE hb h
    rw [hs1, hc1, hr] at this
    exact this)
  have hlt := h.lt
  clear h hE hM hs1 hc1 hr
  unfold inV at HREF ⊢
  go_enter Tryd.func34, Tryd.ntmps34
  go_wp2_with (go_at_call 52; refine (HREF.out _).mono ?_; rintro e w1 ⟨rfl, hb1⟩; unfold inV; have hB6 : Rg.Blk w1 (w.heap.size + 2) 62 #[.string ⟨#[]⟩, .int .i64 0] := (Rg.Blk.newAt (w := (w.alloc (.cells #[.string s, .int .i64 c] 62)).alloc (.cells #[.int .i64 4, .int .i64 N] 66)) (by simp) _ _).below hb1 (by simp); have hB5 : Rg.Blk w1 (w.heap.size + 1) 66 #[.int .i64 4, .int .i64 N] := ((Rg.Blk.newAt (w := w.alloc (.cells #[.string s, .int .i64 c] 62)) (by simp) #[.int .i64 4, .int .i64 N] 66).alloc (.cells #[.string ⟨#[]⟩, .int .i64 0] 62)).below hb1 (by simp); have hz : w.heap.size + 2 < w1.heap.size := (by have := hb1.size; simp at this; omega); have hW1 : Below w.heap.size w w1 := Below.trans (show Below w.heap.size w (((w.alloc (.cells #[.string s, .int .i64 c] 62)).alloc (.cells #[.int .i64 4, .int .i64 N] 66)).alloc (.cells #[.string ⟨#[]⟩, .int .i64 0] 62)) from (((Below.refl _ _).alloc (Nat.le_refl _) _).alloc (by simp) _).alloc (by simp; omega) _) (hb1.mono (by simp; omega)); have HB6 := Lib.hid hB6; have HB5 := Lib.hid hB5; have HZ := Lib.hid hz; have HW1 := Lib.hid hW1; clear hb1 hB6 hB5 hz hW1)
  have hX8 : Rg.Blk (w1.alloc (.cells #[.string s1, .int .i64 c1] 62)) w1.heap.size 62 #[.string s1, .int .i64 c1] := Rg.Blk.new w1 _ _
  have hX6 := HB6.out.alloc (.cells #[.string s1, .int .i64 c1] 62)
  have hX5 := HB5.out.alloc (.cells #[.string s1, .int .i64 c1] 62)
  have hXW : Below w.heap.size w (w1.alloc (.cells #[.string s1, .int .i64 c1] 62)) := HW1.out.alloc HW1.out.size _
  have hXZ : (w1.alloc (.cells #[.string s1, .int .i64 c1] 62)).heap.size = w1.heap.size + 1 := by simp
  generalize w1.alloc (.cells #[.string s1, .int .i64 c1] 62) = X at *
  have n5 := hX5.cell 1 (v := .int .i64 N) rfl
  have t0 := hX8.cell 0 (v := .string s1) rfl
  have t1 := hX8.cell 1 (v := .int .i64 c1) rfl
  have HX8 := Lib.hid (hX8.below (Below.drew (Below.refl _ _)) hX8.lt)
  have HX6 := Lib.hid (hX6.below (Below.drew (Below.refl _ _)) hX6.lt)
  have HX5 := Lib.hid (hX5.below (Below.drew (Below.refl _ _)) hX5.lt)
  have HXW := Lib.hid hXW
  have HXZ := Lib.hid hXZ
  have hz8 : w.heap.size + 2 < w1.heap.size := HZ.out
  have hna : ¬ w1.heap.size = w.heap.size + 1 + 1 := by omega
  have hnb : ¬ w.heap.size + 1 + 1 = w1.heap.size := by omega
  clear hX8 hX6 hX5 hXW hXZ
  go_region_held3 (fun w' => w'.cell? ⟨w1.heap.size, 0, none⟩ = some (.string s1) ∧ w'.cell? ⟨w1.heap.size, 1, none⟩ = some (.int .i64 c1) ∧ w'.cell? ⟨w.heap.size + 1, 1, none⟩ = some (.int .i64 N)) (first | go_keep | (go_split_ands; (repeat' apply And.intro) <;> (simp [*] <;> omega)))
    ((go_at_call 47; refine (HIN.out _ (HE.out.below (HXW.out.trans (Below.drew (Below.refl _ _)))) (cell_later HM.out (HXW.out.trans (Below.drew (Below.refl _ _)))) (H.out.below (HXW.out.trans (Below.drew (Below.refl _ _))) hlt)).mono ?_; rintro e w2 ⟨rfl, h2, hg2⟩; have b8 : Rg.Blk w2 w1.heap.size 62 #[.string s1, .int .i64 c1] := blk_grown HX8.out hg2 (by have := HZ.out; omega); have b6 : Rg.Blk w2 (w.heap.size + 2) 62 #[.string ⟨#[]⟩, .int .i64 0] := blk_grown HX6.out hg2 (by omega); have b5 : Rg.Blk w2 (w.heap.size + 1) 66 #[.int .i64 4, .int .i64 N] := blk_grown HX5.out hg2 (by omega); have u0 := b8.cell 0 (v := .string s1) rfl; have u1 := b8.cell 1 (v := .int .i64 c1) rfl; have p0 := b6.cell 0 (v := .string ⟨#[]⟩) rfl; have p1 := b6.cell 1 (v := .int .i64 0) rfl; have f0 := b6.frozen 0; have f1 := b6.frozen 1; have v5 := b5.cell 1 (v := .int .i64 N) rfl; have H2 := Lib.hid h2; have HG2 := Lib.hid hg2; clear h2 hg2 b8 b6 b5))
  all_goals go_wp2_with fail
  refine bodyPost_ret (v := .tuple #[.agg #[.string s1, .int .i64 c1], .bool true]) (by simp [results, Tryd.results34, go_sem, p0, p1]) rfl ?_
  refine ⟨rfl, ?_, ?_⟩
  · exact blk_setOther (blk_setOther H2.out (by omega)) (by omega)
  · have h5 := World.grownBy.trans (grown_low (World.grownBy.refl w (some b)) (HXW.out.trans (Below.drew (Below.refl _ _)))) HG2.out
    exact grown_low (grown_low h5 (Below.setCell (Below.refl _ _) (by simp; omega) _)) (Below.setCell (Below.refl _ _) (by simp; omega) _)
set_option maxRecDepth 20000 in
set_option maxHeartbeats 2000000 in
theorem step_6 (w : World) (E : Nat → Value) (b : Nat) (s : ByteArray) (c : Nat) (N : Int) (hN : -9223372036854775808 ≤ N) (hN2 : N ≤ 9223372036854775807) (hs : s.size ≤ 900000) (hE : Errs w E) (hb : Gl b)
    (hM : ∃ m, w.cell? ⟨20, 0, none⟩ = some (.int .i64 m)) (hgm : 20 < b) (h : IsIn w b s (evV E c)) :
    Calls Tryd.prog 34 #[.pointer (some ⟨b, 0, none⟩), inV s c, .agg #[.int .i64 6, .int .i64 N]] w (Stepped E b w (stS 6 N s c) (stC 6 N s c)) := by
  have hS : stS 6 N s c = namS s c := rfl
  have hC : stC 6 N s c = namC s c := rfl
  rw [hS, hC]
  clear hS hC
  obtain ⟨s1, hs1⟩ : ∃ s1, namS s c = s1 := ⟨_, rfl⟩
  obtain ⟨c1, hc1⟩ : ∃ c1, namC s c = c1 := ⟨_, rfl⟩
  rw [hs1, hc1]
  have H := Lib.hid h
  have HE := Lib.hid hE
  have HM := Lib.hid hM
  obtain ⟨ys, hr⟩ : ∃ ys, namR s c = ys := ⟨_, rfl⟩
  have hyl : ys.length ≤ 1000001 := by rw [← hr]; exact namR_len s c (by omega)
  have HREF := Lib.hid (show ∀ W : World, Calls Tryd.prog 53 #[inV s c] W (ReadL W s1 c1 ys) from fun W => by
    have := RefNames_read W s c (by omega)
    rw [hs1, hc1, hr] at this
    exact this)
  have HIN := Lib.hid (show ∀ W : World, Errs W E → (∃ m, W.cell? ⟨20, 0, none⟩ = some (.int .i64 m)) → IsIn W b s (evV E c) → Calls Tryd.prog 29 #[.pointer (some ⟨b, 0, none⟩)] W (fun e w' => ∃ A, e = .returned (.slice A ys.length ys.length) ∧ Rd w' A (ys.map Value.string) ∧ IsIn w' b s1 (evV E c1) ∧ W.grownBy w' (some b)) from fun W hE hM h => by
    have := InNames_any W E b s c (by omega) hE hb hM hgm (by omega) h
    rw [hs1, hc1, hr] at this
    exact this)
  have hlt := h.lt
  clear h hE hM hs1 hc1 hr
  unfold inV at HREF ⊢
  go_enter Tryd.func34, Tryd.ntmps34
  go_wp2_with (go_at_call 53; refine (HREF.out _).mono ?_; rintro e w1 ⟨A1, cp1, rfl, hcp1, hr1, hb1⟩; unfold inV; have HR1 := Lib.hid (show RdS w1 w.heap.size A1 (ys.map Value.string) from RdS.mono hr1 (by simp; omega)); have HCP := Lib.hid hcp1; clear hr1 hcp1; have hB6 : Rg.Blk w1 (w.heap.size + 2) 62 #[.string ⟨#[]⟩, .int .i64 0] := (Rg.Blk.newAt (w := (w.alloc (.cells #[.string s, .int .i64 c] 62)).alloc (.cells #[.int .i64 6, .int .i64 N] 66)) (by simp) _ _).below hb1 (by simp); have hB5 : Rg.Blk w1 (w.heap.size + 1) 66 #[.int .i64 6, .int .i64 N] := ((Rg.Blk.newAt (w := w.alloc (.cells #[.string s, .int .i64 c] 62)) (by simp) #[.int .i64 6, .int .i64 N] 66).alloc (.cells #[.string ⟨#[]⟩, .int .i64 0] 62)).below hb1 (by simp); have hz : w.heap.size + 2 < w1.heap.size := (by have := hb1.size; simp at this; omega); have hW1 : Below w.heap.size w w1 := Below.trans (show Below w.heap.size w (((w.alloc (.cells #[.string s, .int .i64 c] 62)).alloc (.cells #[.int .i64 6, .int .i64 N] 66)).alloc (.cells #[.string ⟨#[]⟩, .int .i64 0] 62)) from (((Below.refl _ _).alloc (Nat.le_refl _) _).alloc (by simp) _).alloc (by simp; omega) _) (hb1.mono (by simp; omega)); have HB6 := Lib.hid hB6; have HB5 := Lib.hid hB5; have HZ := Lib.hid hz; have HW1 := Lib.hid hW1; clear hb1 hB6 hB5 hz hW1)
  have hX8 : Rg.Blk (w1.alloc (.cells #[.string s1, .int .i64 c1] 62)) w1.heap.size 62 #[.string s1, .int .i64 c1] := Rg.Blk.new w1 _ _
  have hX6 := HB6.out.alloc (.cells #[.string s1, .int .i64 c1] 62)
  have hX5 := HB5.out.alloc (.cells #[.string s1, .int .i64 c1] 62)
  have hXW : Below w.heap.size w (w1.alloc (.cells #[.string s1, .int .i64 c1] 62)) := HW1.out.alloc HW1.out.size _
  have hXZ : (w1.alloc (.cells #[.string s1, .int .i64 c1] 62)).heap.size = w1.heap.size + 1 := by simp
  have hXR := HR1.out.below (w' := w1.alloc (.cells #[.string s1, .int .i64 c1] 62)) ((Below.refl _ _).alloc (Nat.le_refl _) _)
  generalize w1.alloc (.cells #[.string s1, .int .i64 c1] 62) = X at *
  have n5 := hX5.cell 1 (v := .int .i64 N) rfl
  have t0 := hX8.cell 0 (v := .string s1) rfl
  have t1 := hX8.cell 1 (v := .int .i64 c1) rfl
  have HX8 := Lib.hid (hX8.below (Below.drew (Below.refl _ _)) hX8.lt)
  have HX6 := Lib.hid (hX6.below (Below.drew (Below.refl _ _)) hX6.lt)
  have HX5 := Lib.hid (hX5.below (Below.drew (Below.refl _ _)) hX5.lt)
  have HXW := Lib.hid hXW
  have HXZ := Lib.hid hXZ
  have HXR := Lib.hid hXR
  clear hXR
  have hz8 : w.heap.size + 2 < w1.heap.size := HZ.out
  have hna : ¬ w1.heap.size = w.heap.size + 1 + 1 := by omega
  have hnb : ¬ w.heap.size + 1 + 1 = w1.heap.size := by omega
  clear hX8 hX6 hX5 hXW hXZ
  go_region_held3 (fun w' => w'.cell? ⟨w1.heap.size, 0, none⟩ = some (.string s1) ∧ w'.cell? ⟨w1.heap.size, 1, none⟩ = some (.int .i64 c1)) (first | go_keep | (go_split_ands; (repeat' apply And.intro) <;> (simp [*] <;> omega)))
    (first
      | (go_at_call 29; refine (HIN.out _ (HE.out.below (HXW.out.trans (Below.drew (Below.refl _ _)))) (cell_later HM.out (HXW.out.trans (Below.drew (Below.refl _ _)))) (H.out.below (HXW.out.trans (Below.drew (Below.refl _ _))) hlt)).mono ?_; rintro e w2 ⟨A2, rfl, hr2, h2, hg2⟩; have HR2 := Lib.hid hr2; clear hr2; have HRX := Lib.hid (show RdS X.drew w.heap.size A1 (ys.map Value.string) from HXR.out.below (Below.drew (Below.refl _ _))); have HRY := Lib.hid (RdS.grown HRX.out hg2 hlt).rd; have b8 : Rg.Blk w2 w1.heap.size 62 #[.string s1, .int .i64 c1] := blk_grown HX8.out hg2 (by have := HZ.out; omega); have b6 : Rg.Blk w2 (w.heap.size + 2) 62 #[.string ⟨#[]⟩, .int .i64 0] := blk_grown HX6.out hg2 (by omega); have b5 : Rg.Blk w2 (w.heap.size + 1) 66 #[.int .i64 6, .int .i64 N] := blk_grown HX5.out hg2 (by omega); have u0 := b8.cell 0 (v := .string s1) rfl; have u1 := b8.cell 1 (v := .int .i64 c1) rfl; have p0 := b6.cell 0 (v := .string ⟨#[]⟩) rfl; have p1 := b6.cell 1 (v := .int .i64 0) rfl; have f0 := b6.frozen 0; have f1 := b6.frozen 1; have v5 := b5.cell 1 (v := .int .i64 N) rfl; have H2 := Lib.hid h2; have HG2 := Lib.hid hg2; clear h2 hg2 b8 b6 b5)
      | (go_at_call 28; go_loud (refine (same_rd _ A2 A1 _ _ _ _ ys rfl rfl HR2.out HRY.out (by omega)).mono ?_); rintro e w3 ⟨rfl, hb3⟩; have b8 : Rg.Blk w3 w1.heap.size 62 #[.string s1, .int .i64 c1] := (blk_grown HX8.out HG2.out (by have := HZ.out; omega)).below hb3 (by have := HG2.out.size; have := HX8.out.lt; simp at *; omega); have b6 : Rg.Blk w3 (w.heap.size + 2) 62 #[.string ⟨#[]⟩, .int .i64 0] := (blk_grown HX6.out HG2.out (by omega)).below hb3 (by have := HG2.out.size; have := HX6.out.lt; simp at *; omega); have u0 := b8.cell 0 (v := .string s1) rfl; have u1 := b8.cell 1 (v := .int .i64 c1) rfl; have p0 := b6.cell 0 (v := .string ⟨#[]⟩) rfl; have p1 := b6.cell 1 (v := .int .i64 0) rfl; have f0 := b6.frozen 0; have f1 := b6.frozen 1; have H3 := Lib.hid (H2.out.below hb3 H2.out.lt); have HG3 := Lib.hid (grown_below HG2.out hb3); clear hb3 b8 b6))
  all_goals go_wp2_with fail
  refine bodyPost_ret (v := .tuple #[.agg #[.string s1, .int .i64 c1], .bool true]) (by simp [results, Tryd.results34, go_sem, p0, p1]) rfl ?_
  refine ⟨rfl, ?_, ?_⟩
  · exact blk_setOther (blk_setOther H3.out (by omega)) (by omega)
  · have h5 := World.grownBy.trans (grown_low (World.grownBy.refl w (some b)) (HXW.out.trans (Below.drew (Below.refl _ _)))) HG3.out
    exact grown_low (grown_low h5 (Below.setCell (Below.refl _ _) (by simp; omega) _)) (Below.setCell (Below.refl _ _) (by simp; omega) _)
set_option maxRecDepth 20000 in
set_option maxHeartbeats 2000000 in
theorem step_7 (w : World) (E : Nat → Value) (b : Nat) (s : ByteArray) (c : Nat) (N : Int) (hN : -9223372036854775808 ≤ N) (hN2 : N ≤ 9223372036854775807) (hs : s.size ≤ 900000) (hE : Errs w E) (hb : Gl b)
    (hM : ∃ m, w.cell? ⟨20, 0, none⟩ = some (.int .i64 m)) (hgm : 20 < b) (h : IsIn w b s (evV E c)) :
    Calls Tryd.prog 34 #[.pointer (some ⟨b, 0, none⟩), inV s c, .agg #[.int .i64 7, .int .i64 N]] w (Stepped E b w (stS 7 N s c) (stC 7 N s c)) := by
  have hS : stS 7 N s c = bigS s c N := rfl
  have hC : stC 7 N s c = bigC s c N := rfl
  rw [hS, hC]
  clear hS hC
  obtain ⟨s1, hs1⟩ : ∃ s1, bigS s c N = s1 := ⟨_, rfl⟩
  obtain ⟨c1, hc1⟩ : ∃ c1, bigC s c N = c1 := ⟨_, rfl⟩
  rw [hs1, hc1]
  have H := Lib.hid h
  have HE := Lib.hid hE
  have HM := Lib.hid hM
  obtain ⟨r, hr⟩ : ∃ r, bigR s c N = r := ⟨_, rfl⟩
  have HREF := Lib.hid (show ∀ W : World, Calls Tryd.prog 54 #[inV s c, .int .i64 N] W (Read2 W s1 c1 (.string r)) from fun W => by
    have := RefBig_read W s c N hs hN hN2
    rw [hs1, hc1, hr] at this
    exact this)
  have HIN := Lib.hid (show ∀ W : World, Errs W E → (∃ m, W.cell? ⟨20, 0, none⟩ = some (.int .i64 m)) → IsIn W b s (evV E c) → Calls Tryd.prog 30 #[.pointer (some ⟨b, 0, none⟩), .int .i64 N] W (Gave E b W (.string r) s1 c1) from fun W hE hM h => by
    have := InBig_any W E b s c N (by omega) hE hb h hN
    rw [hs1, hc1, hr] at this
    exact this)
  have hlt := h.lt
  clear h hE hM hs1 hc1 hr
  unfold inV at HREF ⊢
  go_enter Tryd.func34, Tryd.ntmps34
  go_wp2_with (go_at_call 54; refine (HREF.out _).mono ?_; rintro e w1 ⟨rfl, hb1⟩; unfold inV; have hB6 : Rg.Blk w1 (w.heap.size + 2) 62 #[.string ⟨#[]⟩, .int .i64 0] := (Rg.Blk.newAt (w := (w.alloc (.cells #[.string s, .int .i64 c] 62)).alloc (.cells #[.int .i64 7, .int .i64 N] 66)) (by simp) _ _).below hb1 (by simp); have hB5 : Rg.Blk w1 (w.heap.size + 1) 66 #[.int .i64 7, .int .i64 N] := ((Rg.Blk.newAt (w := w.alloc (.cells #[.string s, .int .i64 c] 62)) (by simp) #[.int .i64 7, .int .i64 N] 66).alloc (.cells #[.string ⟨#[]⟩, .int .i64 0] 62)).below hb1 (by simp); have hz : w.heap.size + 2 < w1.heap.size := (by have := hb1.size; simp at this; omega); have hW1 : Below w.heap.size w w1 := Below.trans (show Below w.heap.size w (((w.alloc (.cells #[.string s, .int .i64 c] 62)).alloc (.cells #[.int .i64 7, .int .i64 N] 66)).alloc (.cells #[.string ⟨#[]⟩, .int .i64 0] 62)) from (((Below.refl _ _).alloc (Nat.le_refl _) _).alloc (by simp) _).alloc (by simp; omega) _) (hb1.mono (by simp; omega)); have HB6 := Lib.hid hB6; have HB5 := Lib.hid hB5; have HZ := Lib.hid hz; have HW1 := Lib.hid hW1; clear hb1 hB6 hB5 hz hW1)
  have hX8 : Rg.Blk (w1.alloc (.cells #[.string s1, .int .i64 c1] 62)) w1.heap.size 62 #[.string s1, .int .i64 c1] := Rg.Blk.new w1 _ _
  have hX6 := HB6.out.alloc (.cells #[.string s1, .int .i64 c1] 62)
  have hX5 := HB5.out.alloc (.cells #[.string s1, .int .i64 c1] 62)
  have hXW : Below w.heap.size w (w1.alloc (.cells #[.string s1, .int .i64 c1] 62)) := HW1.out.alloc HW1.out.size _
  have hXZ : (w1.alloc (.cells #[.string s1, .int .i64 c1] 62)).heap.size = w1.heap.size + 1 := by simp
  generalize w1.alloc (.cells #[.string s1, .int .i64 c1] 62) = X at *
  have n5 := hX5.cell 1 (v := .int .i64 N) rfl
  have t0 := hX8.cell 0 (v := .string s1) rfl
  have t1 := hX8.cell 1 (v := .int .i64 c1) rfl
  have HX8 := Lib.hid (hX8.below (Below.drew (Below.refl _ _)) hX8.lt)
  have HX6 := Lib.hid (hX6.below (Below.drew (Below.refl _ _)) hX6.lt)
  have HX5 := Lib.hid (hX5.below (Below.drew (Below.refl _ _)) hX5.lt)
  have HXW := Lib.hid hXW
  have HXZ := Lib.hid hXZ
  have hz8 : w.heap.size + 2 < w1.heap.size := HZ.out
  have hna : ¬ w1.heap.size = w.heap.size + 1 + 1 := by omega
  have hnb : ¬ w.heap.size + 1 + 1 = w1.heap.size := by omega
  clear hX8 hX6 hX5 hXW hXZ
  go_region_held3 (fun w' => w'.cell? ⟨w1.heap.size, 0, none⟩ = some (.string s1) ∧ w'.cell? ⟨w1.heap.size, 1, none⟩ = some (.int .i64 c1) ∧ w'.cell? ⟨w.heap.size + 1, 1, none⟩ = some (.int .i64 N)) (first | go_keep | (go_split_ands; (repeat' apply And.intro) <;> (simp [*] <;> omega)))
    ((go_at_call 30; refine (HIN.out _ (HE.out.below (HXW.out.trans (Below.drew (Below.refl _ _)))) (cell_later HM.out (HXW.out.trans (Below.drew (Below.refl _ _)))) (H.out.below (HXW.out.trans (Below.drew (Below.refl _ _))) hlt)).mono ?_; rintro e w2 ⟨rfl, h2, hg2⟩; have b8 : Rg.Blk w2 w1.heap.size 62 #[.string s1, .int .i64 c1] := blk_grown HX8.out hg2 (by have := HZ.out; omega); have b6 : Rg.Blk w2 (w.heap.size + 2) 62 #[.string ⟨#[]⟩, .int .i64 0] := blk_grown HX6.out hg2 (by omega); have b5 : Rg.Blk w2 (w.heap.size + 1) 66 #[.int .i64 7, .int .i64 N] := blk_grown HX5.out hg2 (by omega); have u0 := b8.cell 0 (v := .string s1) rfl; have u1 := b8.cell 1 (v := .int .i64 c1) rfl; have p0 := b6.cell 0 (v := .string ⟨#[]⟩) rfl; have p1 := b6.cell 1 (v := .int .i64 0) rfl; have f0 := b6.frozen 0; have f1 := b6.frozen 1; have v5 := b5.cell 1 (v := .int .i64 N) rfl; have H2 := Lib.hid h2; have HG2 := Lib.hid hg2; clear h2 hg2 b8 b6 b5))
  all_goals go_wp2_with fail
  refine bodyPost_ret (v := .tuple #[.agg #[.string s1, .int .i64 c1], .bool true]) (by simp [results, Tryd.results34, go_sem, p0, p1]) rfl ?_
  refine ⟨rfl, ?_, ?_⟩
  · exact blk_setOther (blk_setOther H2.out (by omega)) (by omega)
  · have h5 := World.grownBy.trans (grown_low (World.grownBy.refl w (some b)) (HXW.out.trans (Below.drew (Below.refl _ _)))) HG2.out
    exact grown_low (grown_low h5 (Below.setCell (Below.refl _ _) (by simp; omega) _)) (Below.setCell (Below.refl _ _) (by simp; omega) _)
set_option maxRecDepth 20000 in
set_option maxHeartbeats 2000000 in
theorem step_D (w : World) (E : Nat → Value) (b : Nat) (s : ByteArray) (c : Nat) (kind : Int) (N : Int) (hN : -9223372036854775808 ≤ N) (hN2 : N ≤ 9223372036854775807) (h0 : kind ≠ 0) (h1 : kind ≠ 1) (h2 : kind ≠ 2) (h3 : kind ≠ 3) (h4 : kind ≠ 4) (h6 : kind ≠ 6) (h7 : kind ≠ 7) (hs : s.size ≤ 900000) (hE : Errs w E) (hb : Gl b)
    (hM : ∃ m, w.cell? ⟨20, 0, none⟩ = some (.int .i64 m)) (hgm : 20 < b) (h : IsIn w b s (evV E c)) :
    Calls Tryd.prog 34 #[.pointer (some ⟨b, 0, none⟩), inV s c, .agg #[.int .i64 kind, .int .i64 N]] w (Stepped E b w (stS kind N s c) (stC kind N s c)) := by
  have hS : stS kind N s c = txtS s c N := by unfold stS; rw [if_neg h0, if_neg h1, if_neg h2, if_neg h3, if_neg h4, if_neg h6, if_neg h7]
  have hC : stC kind N s c = txtC s c N := by unfold stC; rw [if_neg h0, if_neg h1, if_neg h2, if_neg h3, if_neg h4, if_neg h6, if_neg h7]
  have e0 : (kind == 0) = false := by rw [beq_eq_false_iff_ne]; exact h0
  have e1 : (kind == 1) = false := by rw [beq_eq_false_iff_ne]; exact h1
  have e2 : (kind == 2) = false := by rw [beq_eq_false_iff_ne]; exact h2
  have e3 : (kind == 3) = false := by rw [beq_eq_false_iff_ne]; exact h3
  have e4 : (kind == 4) = false := by rw [beq_eq_false_iff_ne]; exact h4
  have e6 : (kind == 6) = false := by rw [beq_eq_false_iff_ne]; exact h6
  have e7 : (kind == 7) = false := by rw [beq_eq_false_iff_ne]; exact h7
  clear h0 h1 h2 h3 h4 h6 h7
  rw [hS, hC]
  clear hS hC
  obtain ⟨s1, hs1⟩ : ∃ s1, txtS s c N = s1 := ⟨_, rfl⟩
  obtain ⟨c1, hc1⟩ : ∃ c1, txtC s c N = c1 := ⟨_, rfl⟩
  rw [hs1, hc1]
  have H := Lib.hid h
  have HE := Lib.hid hE
  have HM := Lib.hid hM
  obtain ⟨r, hr⟩ : ∃ r, txtR s c N = r := ⟨_, rfl⟩
  have HREF := Lib.hid (show ∀ W : World, Calls Tryd.prog 55 #[inV s c, .int .i64 N] W (Read2 W s1 c1 (.string r)) from fun W => by
    have := RefText_read W s c N (by omega)
    rw [hs1, hc1, hr] at this
    exact this)
  have HIN := Lib.hid (show ∀ W : World, Errs W E → (∃ m, W.cell? ⟨20, 0, none⟩ = some (.int .i64 m)) → IsIn W b s (evV E c) → Calls Tryd.prog 27 #[.pointer (some ⟨b, 0, none⟩), .int .i64 N] W (Gave E b W (.string r) s1 c1) from fun W hE hM h => by
    have := InText_any W E b s c N (by omega) hE hb h
    rw [hs1, hc1, hr] at this
    exact this)
  have hlt := h.lt
  clear h hE hM hs1 hc1 hr
  unfold inV at HREF ⊢
  go_enter Tryd.func34, Tryd.ntmps34
  go_wp2_with (go_at_call 55; refine (HREF.out _).mono ?_; rintro e w1 ⟨rfl, hb1⟩; unfold inV; have hB6 : Rg.Blk w1 (w.heap.size + 2) 62 #[.string ⟨#[]⟩, .int .i64 0] := (Rg.Blk.newAt (w := (w.alloc (.cells #[.string s, .int .i64 c] 62)).alloc (.cells #[.int .i64 kind, .int .i64 N] 66)) (by simp) _ _).below hb1 (by simp); have hB5 : Rg.Blk w1 (w.heap.size + 1) 66 #[.int .i64 kind, .int .i64 N] := ((Rg.Blk.newAt (w := w.alloc (.cells #[.string s, .int .i64 c] 62)) (by simp) #[.int .i64 kind, .int .i64 N] 66).alloc (.cells #[.string ⟨#[]⟩, .int .i64 0] 62)).below hb1 (by simp); have hz : w.heap.size + 2 < w1.heap.size := (by have := hb1.size; simp at this; omega); have hW1 : Below w.heap.size w w1 := Below.trans (show Below w.heap.size w (((w.alloc (.cells #[.string s, .int .i64 c] 62)).alloc (.cells #[.int .i64 kind, .int .i64 N] 66)).alloc (.cells #[.string ⟨#[]⟩, .int .i64 0] 62)) from (((Below.refl _ _).alloc (Nat.le_refl _) _).alloc (by simp) _).alloc (by simp; omega) _) (hb1.mono (by simp; omega)); have HB6 := Lib.hid hB6; have HB5 := Lib.hid hB5; have HZ := Lib.hid hz; have HW1 := Lib.hid hW1; clear hb1 hB6 hB5 hz hW1)
  have hX8 : Rg.Blk (w1.alloc (.cells #[.string s1, .int .i64 c1] 62)) w1.heap.size 62 #[.string s1, .int .i64 c1] := Rg.Blk.new w1 _ _
  have hX6 := HB6.out.alloc (.cells #[.string s1, .int .i64 c1] 62)
  have hX5 := HB5.out.alloc (.cells #[.string s1, .int .i64 c1] 62)
  have hXW : Below w.heap.size w (w1.alloc (.cells #[.string s1, .int .i64 c1] 62)) := HW1.out.alloc HW1.out.size _
  have hXZ : (w1.alloc (.cells #[.string s1, .int .i64 c1] 62)).heap.size = w1.heap.size + 1 := by simp
  generalize w1.alloc (.cells #[.string s1, .int .i64 c1] 62) = X at *
  have n5 := hX5.cell 1 (v := .int .i64 N) rfl
  have t0 := hX8.cell 0 (v := .string s1) rfl
  have t1 := hX8.cell 1 (v := .int .i64 c1) rfl
  have HX8 := Lib.hid (hX8.below (Below.drew (Below.refl _ _)) hX8.lt)
  have HX6 := Lib.hid (hX6.below (Below.drew (Below.refl _ _)) hX6.lt)
  have HX5 := Lib.hid (hX5.below (Below.drew (Below.refl _ _)) hX5.lt)
  have HXW := Lib.hid hXW
  have HXZ := Lib.hid hXZ
  have hz8 : w.heap.size + 2 < w1.heap.size := HZ.out
  have hna : ¬ w1.heap.size = w.heap.size + 1 + 1 := by omega
  have hnb : ¬ w.heap.size + 1 + 1 = w1.heap.size := by omega
  clear hX8 hX6 hX5 hXW hXZ
  go_region_held3 (fun w' => w'.cell? ⟨w1.heap.size, 0, none⟩ = some (.string s1) ∧ w'.cell? ⟨w1.heap.size, 1, none⟩ = some (.int .i64 c1) ∧ w'.cell? ⟨w.heap.size + 1, 1, none⟩ = some (.int .i64 N)) (first | go_keep | (go_split_ands; (repeat' apply And.intro) <;> (simp [*] <;> omega)))
    ((go_at_call 27; refine (HIN.out _ (HE.out.below (HXW.out.trans (Below.drew (Below.refl _ _)))) (cell_later HM.out (HXW.out.trans (Below.drew (Below.refl _ _)))) (H.out.below (HXW.out.trans (Below.drew (Below.refl _ _))) hlt)).mono ?_; rintro e w2 ⟨rfl, h2, hg2⟩; have b8 : Rg.Blk w2 w1.heap.size 62 #[.string s1, .int .i64 c1] := blk_grown HX8.out hg2 (by have := HZ.out; omega); have b6 : Rg.Blk w2 (w.heap.size + 2) 62 #[.string ⟨#[]⟩, .int .i64 0] := blk_grown HX6.out hg2 (by omega); have b5 : Rg.Blk w2 (w.heap.size + 1) 66 #[.int .i64 kind, .int .i64 N] := blk_grown HX5.out hg2 (by omega); have u0 := b8.cell 0 (v := .string s1) rfl; have u1 := b8.cell 1 (v := .int .i64 c1) rfl; have p0 := b6.cell 0 (v := .string ⟨#[]⟩) rfl; have p1 := b6.cell 1 (v := .int .i64 0) rfl; have f0 := b6.frozen 0; have f1 := b6.frozen 1; have v5 := b5.cell 1 (v := .int .i64 N) rfl; have H2 := Lib.hid h2; have HG2 := Lib.hid hg2; clear h2 hg2 b8 b6 b5))
  all_goals go_wp2_with fail
  refine bodyPost_ret (v := .tuple #[.agg #[.string s1, .int .i64 c1], .bool true]) (by simp [results, Tryd.results34, go_sem, p0, p1]) rfl ?_
  refine ⟨rfl, ?_, ?_⟩
  · exact blk_setOther (blk_setOther H2.out (by omega)) (by omega)
  · have h5 := World.grownBy.trans (grown_low (World.grownBy.refl w (some b)) (HXW.out.trans (Below.drew (Below.refl _ _)))) HG2.out
    exact grown_low (grown_low h5 (Below.setCell (Below.refl _ _) (by simp; omega) _)) (Below.setCell (Below.refl _ _) (by simp; omega) _)
theorem step_any (w : World) (E : Nat → Value) (b : Nat) (s : ByteArray) (c : Nat) (kind : Int) (N : Int) (hN : -9223372036854775808 ≤ N) (hN2 : N ≤ 9223372036854775807) (hs : s.size ≤ 900000) (hE : Errs w E) (hb : Gl b)
    (hM : ∃ m, w.cell? ⟨20, 0, none⟩ = some (.int .i64 m)) (hgm : 20 < b) (h : IsIn w b s (evV E c)) :
    Calls Tryd.prog 34 #[.pointer (some ⟨b, 0, none⟩), inV s c, .agg #[.int .i64 kind, .int .i64 N]] w (Stepped E b w (stS kind N s c) (stC kind N s c)) := by
  by_cases h0 : kind = 0
  · subst h0; exact step_0 w E b s c N hN hN2 hs hE hb hM hgm h
  by_cases h1 : kind = 1
  · subst h1; exact step_1 w E b s c N hN hN2 hs hE hb hM hgm h
  by_cases h2 : kind = 2
  · subst h2; exact step_2 w E b s c N hN hN2 hs hE hb hM hgm h
  by_cases h3 : kind = 3
  · subst h3; exact step_3 w E b s c N hN hN2 hs hE hb hM hgm h
  by_cases h4 : kind = 4
  · subst h4; exact step_4 w E b s c N hN hN2 hs hE hb hM hgm h
  by_cases h6 : kind = 6
  · subst h6; exact step_6 w E b s c N hN hN2 hs hE hb hM hgm h
  by_cases h7 : kind = 7
  · subst h7; exact step_7 w E b s c N hN hN2 hs hE hb hM hgm h
  exact step_D w E b s c kind N hN hN2 h0 h1 h2 h3 h4 h6 h7 hs hE hb hM hgm h
theorem rawC_le (s : ByteArray) (c n : Nat) (h : c ≤ 20) : rawC s c n ≤ 20 := by unfold rawC; split; split; all_goals omega
theorem txtC_le (s : ByteArray) (c : Nat) (m : Int) (h : c ≤ 20) : txtC s c m ≤ 20 := by
  unfold txtC; split
  · decide
  · exact rawC_le _ _ _ (rawC_le _ _ _ h)
theorem txtS_size (s : ByteArray) (c : Nat) (m : Int) : (txtS s c m).size ≤ s.size := by
  unfold txtS; split
  · exact Nat.zero_le _
  · exact Nat.le_trans (rawS_size _ _ _) (rawS_size _ _ _)
theorem stC_le (kind N : Int) (s : ByteArray) (c : Nat) (h : c ≤ 20) : stC kind N s c ≤ 20 := by
  unfold stC
  repeat' split
  all_goals first
    | exact rawC_le _ _ _ h
    | exact txtC_le _ _ _ h
    | (unfold namC; split; decide; exact txtC_le _ _ _ h)
    | (unfold bigC; split; exact txtC_le _ _ _ h; (unfold bigK; repeat' split) <;> decide)
theorem stS_size (kind N : Int) (s : ByteArray) (c : Nat) : (stS kind N s c).size ≤ s.size := by
  unfold stS
  repeat' split
  all_goals first
    | exact rawS_size _ _ _
    | exact txtS_size _ _ _
    | (unfold namS; split; exact Nat.zero_le _; exact txtS_size _ _ _)
    | (unfold bigS; split; exact txtS_size _ _ _; exact Nat.zero_le _)
end Go.Proofs.YtkpecnkflibmjaaDoor.Wi
