/- What is known, in memory: New, has. -/
import Derived.Test.YtfcemnebhapidaaDoorTmKn
set_option linter.unusedVariables false
set_option linter.unusedSimpArgs false
namespace Go.Proofs.YtfcemnebhapidaaDoor.Te
open Go.RowKit Go.Proofs.YtfcemnebhapidaaDoor.Ow Go.Proofs.YtfcemnebhapidaaDoor.Mp Go.Maps
theorem keyed_str : Keyed Tryd.prog 9 := string_keyed Tryd.underlying9
theorem zeroT (w : World) : (zeroValue 31).run Tryd.prog w = .ok (.agg #[.string ⟨#[]⟩, .string ⟨#[]⟩, .slice none 0 0]) w := by kernel_rfl
/-- what the map of terms says -/
def MSpec (w : World) (K : List Tm) (f : Lit → Option Value) : Prop := ∀ x, (∃ t p, t ∈ K ∧ t.txt = x ∧ f (.string x) = some (.agg (tv t p)) ∧ TP w t p) ∨ ((∀ t ∈ K, t.txt ≠ x) ∧ f (.string x) = none)
/-- Know at kb, its map mb: n were learned, K is known -/
def IsKn (w : World) (kb mb : Nat) (n N : Nat) (K : List Tm) : Prop :=
  Rg.Blk w kb 65 #[.int .i64 (n : Int), .map (some mb)] ∧ K.Nodup ∧ (∀ t ∈ K, t.wf) ∧ ∃ f, RMap Tryd.prog w 9 mb N f K.length ∧ MSpec w K f
theorem MSpec.below {w w' : World} {K : List Tm} {f : Lit → Option Value} (h : MSpec w K f) (hb : Below w.heap.size w w') : MSpec w' K f := fun x => by
  rcases h x with ⟨t, p, h1, h2, h3, h4⟩ | h
  · exact .inl ⟨t, p, h1, h2, h3, h4.below hb⟩
  · exact .inr h
theorem MSpec.map {w w' : World} {K : List Tm} {f : Lit → Option Value} {b : Nat} (h : MSpec w K f) (hg : w.grownBy w' (some b)) (hm : ∃ es clock, w.heap[b]? = some (.map es clock)) : MSpec w' K f := fun x => by
  rcases h x with ⟨t, p, h1, h2, h3, h4⟩ | h
  · exact .inl ⟨t, p, h1, h2, h3, h4.map hg hm⟩
  · exact .inr h
theorem IsKn.below {w w' : World} {kb mb n N : Nat} {K : List Tm} (h : IsKn w kb mb n N K) (hb : Below w.heap.size w w') : IsKn w' kb mb n N K := by
  obtain ⟨h1, h2, h3, f, h4, h5⟩ := h
  exact ⟨h1.below hb h1.lt, h2, h3, f, h4.below hb h4.lt, h5.below hb⟩
theorem IsKn.ltM {w : World} {kb mb n N : Nat} {K : List Tm} (h : IsKn w kb mb n N K) : mb < w.heap.size := by obtain ⟨_, _, _, f, h4, _⟩ := h; exact h4.lt
theorem IsKn.ne {w : World} {kb mb n N : Nat} {K : List Tm} (h : IsKn w kb mb n N K) : kb ≠ mb := by obtain ⟨h1, _, _, f, h4, _⟩ := h; exact h4.ne h1
theorem TNew_any (w : World) : Calls Tryd.prog 23 #[] w fun e w' => ∃ kb mb, e = .returned (.pointer (some ⟨kb, 0, none⟩)) ∧ IsKn w' kb mb 0 0 [] ∧ Below w.heap.size w w' ∧ w.heap.size ≤ kb ∧ w.heap.size ≤ mb := by
  have hmm := @run_makeMap Tryd.prog
  go_enter Tryd.func23, Tryd.ntmps23
  go_wp2
  go_ret
  have h1 : Below w.heap.size w (w.alloc (.map #[] 0)) := (Below.refl _ _).alloc (Nat.le_refl _) _
  refine ⟨_, w.heap.size, rfl, ⟨Rg.Blk.newAt (by simp) _ _, List.nodup_nil, fun t h => by simp at h, fun _ => none, ?_, fun x => .inr ⟨fun t h => by simp at h, rfl⟩⟩, h1.alloc (by simp) _, by omega, Nat.le_refl _⟩
  have h := RMap.made w Tryd.prog 9
  exact h.below (B := w.heap.size + 1) ((Below.refl _ _).alloc (by simp) _) (by omega)
/-- a look at a text -/
theorem IsKn.look {w : World} {kb mb n N : Nat} {K : List Tm} (h : IsKn w kb mb n N K) {t : Tm} (ht : t.wf) (hl : t.txt.length ≤ 1000000) : ∃ v, (∀ W, Below w.heap.size w W → (Instr.lookup 63 (.map (some mb)) (.string (strB t.txt)) true).run Tryd.prog W = .ok (.tuple #[.agg v, .bool (decide (t ∈ K))]) W) ∧ ∃ c0 c1 A m c, v = #[.string c0, .string c1, .slice A m c] := by
  obtain ⟨_, _, hw, f, hf, hfx⟩ := h
  have hlk : ∀ W, Below w.heap.size w W → (Instr.lookup 63 (.map (some mb)) (.string (strB t.txt)) true).run Tryd.prog W = .ok (.tuple #[(f (.string t.txt)).getD (.agg #[.string ⟨#[]⟩, .string ⟨#[]⟩, .slice none 0 0]), .bool (f (.string t.txt)).isSome]) W := fun W hW =>
    (hf.below hW hf.lt).lookOk keyed_str Tryd.underlying63 (zeroT W) (key_str Tryd.underlying9 (strB t.txt) (by rw [strB_size]; unfold maxLen; omega))
  rcases hfx t.txt with ⟨u, p, h1, h2, h3, h4⟩ | ⟨h1, h2⟩
  · obtain rfl : u = t := txt_inj (hw u h1) ht h2
    obtain ⟨A, c, rfl⟩ := h4.slice
    refine ⟨tv u (.slice A u.prt.length c), fun W hW => ?_, _, _, _, _, _, rfl⟩
    rw [hlk W hW, h3, decide_eq_true h1]; rfl
  · refine ⟨#[.string ⟨#[]⟩, .string ⟨#[]⟩, .slice none 0 0], fun W hW => ?_, _, _, _, _, _, rfl⟩
    rw [hlk W hW, h2, decide_eq_false (fun e => h1 t e rfl)]; rfl
set_option maxRecDepth 20000 in
set_option maxHeartbeats 4000000 in
theorem has_any (w : World) (kb mb n N : Nat) (K : List Tm) (h : IsKn w kb mb n N K) (t : Tm) (ht : t.wf) (hl : t.txt.length ≤ 1000000) (p : Value) (hp : ∃ A m c, p = .slice A m c) :
    Calls Tryd.prog 34 #[.pointer (some ⟨kb, 0, none⟩), .agg (tv t p)] w fun e w' => e = .returned (.bool (decide (t ∈ K))) ∧ Below w.heap.size w w' := by
  obtain ⟨A, m, c, rfl⟩ := hp
  obtain ⟨v, hlk, c0, c1, A', m', c', rfl⟩ := h.look ht hl
  have HLK := Lib.hid hlk
  have HB := Lib.hid h.1
  generalize decide (t ∈ K) = bb at *
  clear h ht hl hlk
  go_enter Tryd.func34, Tryd.ntmps34
  go_upto_region 1 with (refine Rg.box_fresh rfl 31 _ rfl #[.string (strB t.knd), .string (strB t.txt), .slice A m c] rfl ?_; intro X hX hbX hnX; have HX := Lib.hid hX; have HBX := Lib.hid hbX; clear hX hbX hnX)
  have HKX := Lib.hid (HB.out.below HBX.out HB.out.lt)
  refine RL.start (RL.Aft X) (by kernel_rfl) (RL.Aft.drew (RL.Aft.refl X)) ?_
  refine' RL.takeV (i := 0) (v := _) rfl (by kernel_rfl) (by kernel_rfl) (by kernel_rfl) (fun _ _ _ h => h) (by rfl) ?hk1 ?_
  case hk1 => (intro W hSW; go_simp; try with_reducible rfl)
  (try simp only [Act.put, List.setIfInBounds_toArray, List.set_cons_zero, List.set_cons_succ])
  refine' RL.takeV (i := 1) (v := _) rfl (by kernel_rfl) (by kernel_rfl) (by kernel_rfl) (fun _ _ _ h => h) (by rfl) ?hk2 ?_
  case hk2 => (intro W hSW; go_simp; try with_reducible rfl)
  (try simp only [Act.put, List.setIfInBounds_toArray, List.set_cons_zero, List.set_cons_succ])
  refine' RL.takeV (i := 2) (v := _) rfl (by kernel_rfl) (by kernel_rfl) (by kernel_rfl) (fun _ _ _ h => h) (by rfl) ?hk3 ?_
  case hk3 => (intro W hSW; go_simp; try with_reducible rfl)
  (try simp only [Act.put, List.setIfInBounds_toArray, List.set_cons_zero, List.set_cons_succ])
  refine' RL.takeV (i := 3) (v := _) rfl (by kernel_rfl) (by kernel_rfl) (by kernel_rfl) (fun _ _ _ h => h) (by rfl) ?hk4 ?_
  case hk4 => (intro W hSW; have k1 := (HKX.out.below hSW HKX.out.lt).cell 1 (v := .map (some mb)) rfl; go_simp; try with_reducible rfl)
  (try simp only [Act.put, List.setIfInBounds_toArray, List.set_cons_zero, List.set_cons_succ])
  refine' RL.takeV (i := 4) (v := _) rfl (by kernel_rfl) (by kernel_rfl) (by kernel_rfl) (fun _ _ _ h => h) (by rfl) ?hk5 ?_
  case hk5 => (intro W hSW; go_simp; try with_reducible rfl)
  (try simp only [Act.put, List.setIfInBounds_toArray, List.set_cons_zero, List.set_cons_succ])
  refine' RL.takeV (i := 5) (v := _) rfl (by kernel_rfl) (by kernel_rfl) (by kernel_rfl) (fun _ _ _ h => h) (by rfl) ?hk6 ?_
  case hk6 => (intro W hSW; have x1 := (HX.out.below hSW HX.out.lt).cell 1 (v := .string (strB t.txt)) rfl; go_simp; try with_reducible rfl)
  (try simp only [Act.put, List.setIfInBounds_toArray, List.set_cons_zero, List.set_cons_succ])
  refine' RL.takeV (i := 6) (v := _) rfl (by kernel_rfl) (by kernel_rfl) (by kernel_rfl) (fun _ _ _ h => h) (by rfl) ?hk7 ?_
  case hk7 => (intro W hSW; have hl := HLK.out W (HBX.out.trans (Below.mono hSW HBX.out.size)); go_simp; try with_reducible rfl)
  (try simp only [Act.put, List.setIfInBounds_toArray, List.set_cons_zero, List.set_cons_succ])
  refine' RL.takeV (i := 7) (v := _) rfl (by kernel_rfl) (by kernel_rfl) (by kernel_rfl) (fun _ _ _ h => h) (by rfl) ?hk8 ?_
  case hk8 => (intro W hSW; go_simp; try with_reducible rfl)
  (try simp only [Act.put, List.setIfInBounds_toArray, List.set_cons_zero, List.set_cons_succ])
  refine' RL.takeV (i := 8) (v := _) rfl (by kernel_rfl) (by kernel_rfl) (by kernel_rfl) (fun _ _ _ h => h) (by rfl) ?hk9 ?_
  case hk9 => (intro W hSW; go_simp; try with_reducible rfl)
  (try simp only [Act.put, List.setIfInBounds_toArray, List.set_cons_zero, List.set_cons_succ])
  refine' RL.takeV (i := 9) (v := _) rfl (by kernel_rfl) (by kernel_rfl) (by kernel_rfl) (fun _ _ _ h => h) (by rfl) ?hk10 ?_
  case hk10 => (intro W hSW; go_simp; try with_reducible rfl)
  (try simp only [Act.put, List.setIfInBounds_toArray, List.set_cons_zero, List.set_cons_succ])
  refine RL.stepK (i := 10) rfl (by kernel_rfl) (by rfl) (fun wa hlwa hswa K hK => ?_)
  go_simp
  have HLA := Lib.hid hswa
  refine hK.out _ _ (RL.Aft.alloc hswa _) ?_
  clear hK
  (try simp only [Act.put, List.setIfInBounds_toArray, List.set_cons_zero, List.set_cons_succ])
  refine RL.stepK (i := 11) rfl (by kernel_rfl) (by rfl) (fun wb hlwb hswb K hK => ?_)
  have hba := (Rg.Blk.new wa #[.string ⟨#[]⟩, .string ⟨#[]⟩, .slice none 0 0] 31).below hlwb (by simp)
  refine store_blk_op 31 _ _ rfl wa.heap.size #[.string c0, .string c1, .slice A' m' c'] #[.string ⟨#[]⟩, .string ⟨#[]⟩, .slice none 0 0] 31 rfl rfl hba (by kernel_rfl) rfl (by simp [Value.oneCell']) ?_
  intro Y hY hgY
  refine hK.out _ _ (show RL.Aft X Y from Below.grown hswb hgY hswb.size (fun k hk => by cases hk; exact HLA.out.size)) ?_
  clear hK hY hgY
  (try simp only [Act.put, List.setIfInBounds_toArray, List.set_cons_zero, List.set_cons_succ])
  refine' RL.takeV (i := 12) (v := _) rfl (by kernel_rfl) (by kernel_rfl) (by kernel_rfl) (fun _ _ _ h => h) (by rfl) ?hk11 ?_
  case hk11 => (intro W hSW; go_simp; try with_reducible rfl)
  (try simp only [Act.put, List.setIfInBounds_toArray, List.set_cons_zero, List.set_cons_succ])
  refine RL.done (by kernel_rfl) (fun wd hlwd hswd => ?_)
  have HWD := Lib.hid (HBX.out.trans (Below.mono (show Below X.heap.size X wd from hswd) HBX.out.size))
  clear hlwd hswd
  go_wp2
  go_ret
  exact ⟨rfl, HWD.out⟩
end Go.Proofs.YtfcemnebhapidaaDoor.Te
