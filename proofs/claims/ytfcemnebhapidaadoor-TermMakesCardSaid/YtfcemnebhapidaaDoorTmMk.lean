/- term.Make. -/
import Derived.Test.YtfcemnebhapidaaDoorTmGw
set_option linter.unusedVariables false
set_option linter.unusedSimpArgs false
namespace Go.Proofs.YtfcemnebhapidaaDoor.Te
open Go.RowKit Go.Proofs.YtfcemnebhapidaaDoor.Ow Go.Proofs.YtfcemnebhapidaaDoor.Mp Go.Maps
set_option maxRecDepth 20000 in
set_option maxHeartbeats 8000000 in
theorem Make_cnt (w : World) (x : List UInt8) (A : Option Addr) (n c : Nat) (h : cnt x = 0 ∨ cnt x ≠ n) (a : Nat → Addr) (hE : ErrsT w a) :
    Calls Tryd.prog 29 #[.string (strB x), .slice A n c] w fun e w' => e = .returned (.tuple #[.agg #[.string ⟨#[]⟩, .string ⟨#[]⟩, .slice none 0 0], .iface 137 (.pointer (some (a 3)))]) ∧ Below w.heap.size w w' := by
  have HE := Lib.hid (fun W (hW : Below w.heap.size w W) => show W.cell? ⟨0, 0, none⟩ = some (.iface 137 (.pointer (some (a 3)))) from (hE.below hW).cell 2 (by decide))
  obtain ⟨m, hm⟩ : ∃ m, cnt x = m := ⟨_, rfl⟩
  have HCN := Lib.hid (fun W => hm ▸ count_any W x)
  rw [hm] at h
  clear hm hE
  by_cases h0 : m = 0
  · subst h0
    clear h
    go_enter Tryd.func29, Tryd.ntmps29
    have HZ := Lib.hid (Rg.Blk.new w #[.string ⟨#[]⟩, .string ⟨#[]⟩, .slice none 0 0] 31)
    have HB := Lib.hid (show Below w.heap.size w (w.alloc (.cells #[.string ⟨#[]⟩, .string ⟨#[]⟩, .slice none 0 0] 31)) from (Below.refl _ _).alloc (Nat.le_refl _) _)
    go_upto_region 3 with (go_at_call 42; refine (HCN.out _).mono ?_; rintro e W1 ⟨rfl, hw⟩; skip; have HZx := Lib.hid (show Rg.Blk W1 w.heap.size 31 #[.string ⟨#[]⟩, .string ⟨#[]⟩, .slice none 0 0] from hw ▸ HZ.out); have HBx := Lib.hid (show Below w.heap.size w W1 from hw ▸ HB.out); clear HZ HB; have HZ := HZx; have HB := HBx; clear HZx HBx hw)
    refine wp_name (fun Zw hZw => ?_)
    have HZz := Lib.hid (show Rg.Blk Zw w.heap.size 31 #[.string ⟨#[]⟩, .string ⟨#[]⟩, .slice none 0 0] by rw [hZw]; first | exact HZ.out | exact HZ.out.alloc _ | exact HZ.out.below (bdN (Below.refl _ _) _) HZ.out.lt)
    have HBz := Lib.hid (show Below w.heap.size w Zw by rw [hZw]; first | exact HB.out | exact Below.alloc HB.out HB.out.size _ | exact bdN HB.out _)
    clear hZw
    refine RL.start (RDr w) (by kernel_rfl) ((show RDr w Zw from HBz.out).lat (Below.drew (Below.refl _ _))) ?_
    refine' RL.takeV (i := 0) (v := _) rfl (by kernel_rfl) (by kernel_rfl) (by kernel_rfl) (fun _ _ _ h => h) (by rfl) ?hk1 ?_
    case hk1 => (intro W hSW; go_simp; try with_reducible rfl)
    (try simp only [Act.put, List.setIfInBounds_toArray, List.set_cons_zero, List.set_cons_succ])
    refine' RL.takeV (i := 1) (v := _) rfl (by kernel_rfl) (by kernel_rfl) (by kernel_rfl) (fun _ _ _ h => h) (by rfl) ?hk2 ?_
    case hk2 => (intro W hSW; have e3 := HE.out W hSW; go_simp; try with_reducible rfl)
    (try simp only [Act.put, List.setIfInBounds_toArray, List.set_cons_zero, List.set_cons_succ])
    refine RL.stepK (i := 2) rfl (by kernel_rfl) (by rfl) (fun wa hlwa hswa K hK => ?_)
    have HZa := Lib.hid ((HZz.out.below (Below.drew (Below.refl _ _)) HZz.out.lt).below hlwa HZz.out.lt)
    refine store_blk_op 31 _ _ rfl w.heap.size #[.string ⟨#[]⟩, .string ⟨#[]⟩, .slice none 0 0] #[.string ⟨#[]⟩, .string ⟨#[]⟩, .slice none 0 0] 31 rfl rfl HZa.out (by kernel_rfl) rfl (by simp [Value.oneCell']) ?_
    intro V hV hgV
    have HV := Lib.hid hV
    refine hK.out _ _ (show RDr w V from Below.grown hswa hgV (Below.size hswa) (fun j hj => by cases hj; exact Nat.le_refl _)) ?_
    clear hK hgV hV
    (try simp only [Act.put, List.setIfInBounds_toArray, List.set_cons_zero, List.set_cons_succ])
    refine' RL.takeV (i := 3) (v := _) rfl (by kernel_rfl) (by kernel_rfl) (by kernel_rfl) (fun _ _ _ h => h) (by rfl) ?hk3 ?_
    case hk3 => (intro W hSW; go_simp; try with_reducible rfl)
    (try simp only [Act.put, List.setIfInBounds_toArray, List.set_cons_zero, List.set_cons_succ])
    refine RL.done (by kernel_rfl) (fun wd hlwd hswd => ?_)
    have HVd := Lib.hid (HV.out.below hlwd HV.out.lt)
    have HBd := Lib.hid (show Below w.heap.size w wd from hswd)
    clear hlwd hswd
    have p0 := HVd.out.cell 0 (v := .string ⟨#[]⟩) rfl
    have p1 := HVd.out.cell 1 (v := .string ⟨#[]⟩) rfl
    have p2 := HVd.out.cell 2 (v := .slice none 0 0) rfl
    have hz6 := HVd.out.lt
    go_wp2
    refine bodyPost_ret (v := .tuple #[.agg #[.string ⟨#[]⟩, .string ⟨#[]⟩, .slice none 0 0], .iface 137 (.pointer (some (a 3)))]) (by simp [results, Tryd.results29, go_sem, p0, p1, p2, hz6]) rfl ?_
    exact ⟨rfl, HBd.out⟩
  · have hmn : ((m : Int) != (n : Int)) = true := by rw [bne_iff_ne]; omega
    have hm0 : ((m : Int) == 0) = false := by rw [beq_eq_false_iff_ne]; omega
    clear h h0
    go_enter Tryd.func29, Tryd.ntmps29
    have HZ := Lib.hid (Rg.Blk.new w #[.string ⟨#[]⟩, .string ⟨#[]⟩, .slice none 0 0] 31)
    have HB := Lib.hid (show Below w.heap.size w (w.alloc (.cells #[.string ⟨#[]⟩, .string ⟨#[]⟩, .slice none 0 0] 31)) from (Below.refl _ _).alloc (Nat.le_refl _) _)
    go_upto_region 3 with (go_at_call 42; refine (HCN.out _).mono ?_; rintro e W1 ⟨rfl, hw⟩; skip; have HZx := Lib.hid (show Rg.Blk W1 w.heap.size 31 #[.string ⟨#[]⟩, .string ⟨#[]⟩, .slice none 0 0] from hw ▸ HZ.out); have HBx := Lib.hid (show Below w.heap.size w W1 from hw ▸ HB.out); clear HZ HB; have HZ := HZx; have HB := HBx; clear HZx HBx hw)
    refine wp_name (fun Zw hZw => ?_)
    have HZz := Lib.hid (show Rg.Blk Zw w.heap.size 31 #[.string ⟨#[]⟩, .string ⟨#[]⟩, .slice none 0 0] by rw [hZw]; first | exact HZ.out | exact HZ.out.alloc _ | exact HZ.out.below (bdN (Below.refl _ _) _) HZ.out.lt)
    have HBz := Lib.hid (show Below w.heap.size w Zw by rw [hZw]; first | exact HB.out | exact Below.alloc HB.out HB.out.size _ | exact bdN HB.out _)
    clear hZw
    refine RL.start (RDr w) (by kernel_rfl) ((show RDr w Zw from HBz.out).lat (Below.drew (Below.refl _ _))) ?_
    refine' RL.takeV (i := 0) (v := _) rfl (by kernel_rfl) (by kernel_rfl) (by kernel_rfl) (fun _ _ _ h => h) (by rfl) ?hk4 ?_
    case hk4 => (intro W hSW; go_simp; try with_reducible rfl)
    (try simp only [Act.put, List.setIfInBounds_toArray, List.set_cons_zero, List.set_cons_succ])
    refine' RL.takeV (i := 1) (v := _) rfl (by kernel_rfl) (by kernel_rfl) (by kernel_rfl) (fun _ _ _ h => h) (by rfl) ?hk5 ?_
    case hk5 => (intro W hSW; have e3 := HE.out W hSW; go_simp; try with_reducible rfl)
    (try simp only [Act.put, List.setIfInBounds_toArray, List.set_cons_zero, List.set_cons_succ])
    refine RL.stepK (i := 2) rfl (by kernel_rfl) (by rfl) (fun wa hlwa hswa K hK => ?_)
    have HZa := Lib.hid ((HZz.out.below (Below.drew (Below.refl _ _)) HZz.out.lt).below hlwa HZz.out.lt)
    refine store_blk_op 31 _ _ rfl w.heap.size #[.string ⟨#[]⟩, .string ⟨#[]⟩, .slice none 0 0] #[.string ⟨#[]⟩, .string ⟨#[]⟩, .slice none 0 0] 31 rfl rfl HZa.out (by kernel_rfl) rfl (by simp [Value.oneCell']) ?_
    intro V hV hgV
    have HV := Lib.hid hV
    refine hK.out _ _ (show RDr w V from Below.grown hswa hgV (Below.size hswa) (fun j hj => by cases hj; exact Nat.le_refl _)) ?_
    clear hK hgV hV
    (try simp only [Act.put, List.setIfInBounds_toArray, List.set_cons_zero, List.set_cons_succ])
    refine' RL.takeV (i := 3) (v := _) rfl (by kernel_rfl) (by kernel_rfl) (by kernel_rfl) (fun _ _ _ h => h) (by rfl) ?hk6 ?_
    case hk6 => (intro W hSW; go_simp; try with_reducible rfl)
    (try simp only [Act.put, List.setIfInBounds_toArray, List.set_cons_zero, List.set_cons_succ])
    refine RL.done (by kernel_rfl) (fun wd hlwd hswd => ?_)
    have HVd := Lib.hid (HV.out.below hlwd HV.out.lt)
    have HBd := Lib.hid (show Below w.heap.size w wd from hswd)
    clear hlwd hswd
    have p0 := HVd.out.cell 0 (v := .string ⟨#[]⟩) rfl
    have p1 := HVd.out.cell 1 (v := .string ⟨#[]⟩) rfl
    have p2 := HVd.out.cell 2 (v := .slice none 0 0) rfl
    have hz6 := HVd.out.lt
    go_wp2
    refine bodyPost_ret (v := .tuple #[.agg #[.string ⟨#[]⟩, .string ⟨#[]⟩, .slice none 0 0], .iface 137 (.pointer (some (a 3)))]) (by simp [results, Tryd.results29, go_sem, p0, p1, p2, hz6]) rfl ?_
    exact ⟨rfl, HBd.out⟩
set_option maxRecDepth 20000 in
set_option maxHeartbeats 8000000 in
theorem Make_bad0 (w : World) (x : List UInt8) (b o n c : Nat) (h : cnt x = n) (hn1 : 1 ≤ n) (hn2 : n ≤ 2) (hlb : b < w.heap.size) (hz : ∀ j v, (#[.string ⟨#[]⟩, .string ⟨#[]⟩, .slice none 0 0] : Array Value)[j]? = some v → w.cell? ⟨b, o + j, none⟩ = some v) (a : Nat → Addr) (hE : ErrsT w a) :
    Calls Tryd.prog 29 #[.string (strB x), .slice (some ⟨b, o, none⟩) n c] w fun e w' => e = .returned (.tuple #[.agg #[.string ⟨#[]⟩, .string ⟨#[]⟩, .slice none 0 0], .iface 137 (.pointer (some (a 3)))]) ∧ Below w.heap.size w w' := by
  have HE := Lib.hid (fun W (hW : Below w.heap.size w W) => show W.cell? ⟨0, 0, none⟩ = some (.iface 137 (.pointer (some (a 3)))) from (hE.below hW).cell 2 (by decide))
  have HCN := Lib.hid (fun W => h ▸ count_any W x)
  have HC0 := Lib.hid (show ∀ W, Below w.heap.size w W → ∀ j v, (#[.string ⟨#[]⟩, .string ⟨#[]⟩, .slice none 0 0] : Array Value)[j]? = some v → W.cell? ⟨b, o + j, none⟩ = some v from fun W hW j v hv => (hW.cell (p := ⟨b, o + j, none⟩) hlb).trans (hz j v hv))
  have hn0 : ((n : Int) == 0) = false := by rw [beq_eq_false_iff_ne]; omega
  have hd : decide (0 < n) = true := by simp; omega
  have hdi : (0 : Int) < n := by omega
  clear h hE hz hlb hn1
  go_enter Tryd.func29, Tryd.ntmps29
  have HZ := Lib.hid (Rg.Blk.new w #[.string ⟨#[]⟩, .string ⟨#[]⟩, .slice none 0 0] 31)
  have HB := Lib.hid (show Below w.heap.size w (w.alloc (.cells #[.string ⟨#[]⟩, .string ⟨#[]⟩, .slice none 0 0] 31)) from (Below.refl _ _).alloc (Nat.le_refl _) _)
  go_upto_region 4 with (go_at_call 42; refine (HCN.out _).mono ?_; rintro e W1 ⟨rfl, hw⟩; skip; have HZx := Lib.hid (show Rg.Blk W1 w.heap.size 31 #[.string ⟨#[]⟩, .string ⟨#[]⟩, .slice none 0 0] from hw ▸ HZ.out); have HBx := Lib.hid (show Below w.heap.size w W1 from hw ▸ HB.out); clear HZ HB; have HZ := HZx; have HB := HBx; clear HZx HBx hw)
  go_wp2_with fail
  refine wp_loop_rounds 2 ?_
  rw [rounds_succ]
  go_upto_region 8 with (first
    | (refine Cv.load_cells rfl 31 _ rfl b (o) rfl #[.string ⟨#[]⟩, .string ⟨#[]⟩, .slice none 0 0] _ (HC0.out _ HB.out) Tryd.underlying31 rfl (by kernel_rfl) ?_; skip)
    | (refine Rg.store_fresh rfl 31 _ _ rfl #[.string ⟨#[]⟩, .string ⟨#[]⟩, .slice none 0 0] _ 31 rfl rfl (by kernel_rfl) rfl (by simp [Value.oneCell']) ?_; intro XHX hX hbX; have HX := Lib.hid hX; have HBy := Lib.hid (HB.out.trans (Below.mono hbX HB.out.size)); clear HB; have HB := HBy; clear HBy; have HZy := Lib.hid (HZ.out.below hbX HZ.out.lt); clear HZ; have HZ := HZy; clear HZy; have x0 := HX.out.cell 0 (v := .string ⟨#[]⟩) rfl; have x1 := HX.out.cell 1 (v := .string ⟨#[]⟩) rfl; have x2 := HX.out.cell 2 (v := .slice none 0 0) rfl; clear hX hbX))
  refine wp_name (fun Zw hZw => ?_)
  have HZz := Lib.hid (show Rg.Blk Zw w.heap.size 31 #[.string ⟨#[]⟩, .string ⟨#[]⟩, .slice none 0 0] by rw [hZw]; first | exact HZ.out | exact HZ.out.alloc _ | exact HZ.out.below (bdN (Below.refl _ _) _) HZ.out.lt)
  have HBz := Lib.hid (show Below w.heap.size w Zw by rw [hZw]; first | exact HB.out | exact Below.alloc HB.out HB.out.size _ | exact bdN HB.out _)
  clear hZw
  refine RL.start (RDr w) (by kernel_rfl) ((show RDr w Zw from HBz.out).lat (Below.drew (Below.refl _ _))) ?_
  refine' RL.takeV (i := 0) (v := _) rfl (by kernel_rfl) (by kernel_rfl) (by kernel_rfl) (fun _ _ _ h => h) (by rfl) ?hk7 ?_
  case hk7 => (intro W hSW; go_simp; try with_reducible rfl)
  (try simp only [Act.put, List.setIfInBounds_toArray, List.set_cons_zero, List.set_cons_succ])
  refine' RL.takeV (i := 1) (v := _) rfl (by kernel_rfl) (by kernel_rfl) (by kernel_rfl) (fun _ _ _ h => h) (by rfl) ?hk8 ?_
  case hk8 => (intro W hSW; have e3 := HE.out W hSW; go_simp; try with_reducible rfl)
  (try simp only [Act.put, List.setIfInBounds_toArray, List.set_cons_zero, List.set_cons_succ])
  refine RL.stepK (i := 2) rfl (by kernel_rfl) (by rfl) (fun wa hlwa hswa K hK => ?_)
  have HZa := Lib.hid ((HZz.out.below (Below.drew (Below.refl _ _)) HZz.out.lt).below hlwa HZz.out.lt)
  refine store_blk_op 31 _ _ rfl w.heap.size #[.string ⟨#[]⟩, .string ⟨#[]⟩, .slice none 0 0] #[.string ⟨#[]⟩, .string ⟨#[]⟩, .slice none 0 0] 31 rfl rfl HZa.out (by kernel_rfl) rfl (by simp [Value.oneCell']) ?_
  intro V hV hgV
  have HV := Lib.hid hV
  refine hK.out _ _ (show RDr w V from Below.grown hswa hgV (Below.size hswa) (fun j hj => by cases hj; exact Nat.le_refl _)) ?_
  clear hK hgV hV
  (try simp only [Act.put, List.setIfInBounds_toArray, List.set_cons_zero, List.set_cons_succ])
  refine' RL.takeV (i := 3) (v := _) rfl (by kernel_rfl) (by kernel_rfl) (by kernel_rfl) (fun _ _ _ h => h) (by rfl) ?hk9 ?_
  case hk9 => (intro W hSW; go_simp; try with_reducible rfl)
  (try simp only [Act.put, List.setIfInBounds_toArray, List.set_cons_zero, List.set_cons_succ])
  refine RL.done (by kernel_rfl) (fun wd hlwd hswd => ?_)
  have HVd := Lib.hid (HV.out.below hlwd HV.out.lt)
  have HBd := Lib.hid (show Below w.heap.size w wd from hswd)
  clear hlwd hswd
  have p0 := HVd.out.cell 0 (v := .string ⟨#[]⟩) rfl
  have p1 := HVd.out.cell 1 (v := .string ⟨#[]⟩) rfl
  have p2 := HVd.out.cell 2 (v := .slice none 0 0) rfl
  have hz6 := HVd.out.lt
  go_wp2
  refine bodyPost_ret (v := .tuple #[.agg #[.string ⟨#[]⟩, .string ⟨#[]⟩, .slice none 0 0], .iface 137 (.pointer (some (a 3)))]) (by simp [results, Tryd.results29, go_sem, p0, p1, p2, hz6]) rfl ?_
  exact ⟨rfl, HBd.out⟩
set_option maxRecDepth 20000 in
set_option maxHeartbeats 8000000 in
theorem Make_bad1 (w : World) (x : List UInt8) (b o c : Nat) (h : cnt x = 2) (t : Tm) (ht : t.wf) (At : Option Addr) (ct : Nat) (hlb : b < w.heap.size) (h0 : ∀ j v, (#[.string (strB (Tm.knd t)), .string (strB (Tm.txt t)), .slice At (Tm.prt t).length ct] : Array Value)[j]? = some v → w.cell? ⟨b, o + j, none⟩ = some v) (hz : ∀ j v, (#[.string ⟨#[]⟩, .string ⟨#[]⟩, .slice none 0 0] : Array Value)[j]? = some v → w.cell? ⟨b, o + 3 + j, none⟩ = some v) (a : Nat → Addr) (hE : ErrsT w a) :
    Calls Tryd.prog 29 #[.string (strB x), .slice (some ⟨b, o, none⟩) 2 c] w fun e w' => e = .returned (.tuple #[.agg #[.string ⟨#[]⟩, .string ⟨#[]⟩, .slice none 0 0], .iface 137 (.pointer (some (a 3)))]) ∧ Below w.heap.size w w' := by
  have HE := Lib.hid (fun W (hW : Below w.heap.size w W) => show W.cell? ⟨0, 0, none⟩ = some (.iface 137 (.pointer (some (a 3)))) from (hE.below hW).cell 2 (by decide))
  have HCN := Lib.hid (fun W => h ▸ count_any W x)
  have HC0 := Lib.hid (show ∀ W, Below w.heap.size w W → ∀ j v, (#[.string (strB (Tm.knd t)), .string (strB (Tm.txt t)), .slice At (Tm.prt t).length ct] : Array Value)[j]? = some v → W.cell? ⟨b, o + j, none⟩ = some v from fun W hW j v hv => (hW.cell (p := ⟨b, o + j, none⟩) hlb).trans (h0 j v hv))
  have HC1 := Lib.hid (show ∀ W, Below w.heap.size w W → ∀ j v, (#[.string ⟨#[]⟩, .string ⟨#[]⟩, .slice none 0 0] : Array Value)[j]? = some v → W.cell? ⟨b, o + 3 + j, none⟩ = some v from fun W hW j v hv => (hW.cell (p := ⟨b, o + 3 + j, none⟩) hlb).trans (hz j v hv))
  have hte : ((strB (Tm.txt t)).toList == []) = false := by rw [strB_toList, beq_eq_false_iff_ne]; exact txt_ne ht
  clear h hE hz hlb h0 ht
  go_enter Tryd.func29, Tryd.ntmps29
  have HZ := Lib.hid (Rg.Blk.new w #[.string ⟨#[]⟩, .string ⟨#[]⟩, .slice none 0 0] 31)
  have HB := Lib.hid (show Below w.heap.size w (w.alloc (.cells #[.string ⟨#[]⟩, .string ⟨#[]⟩, .slice none 0 0] 31)) from (Below.refl _ _).alloc (Nat.le_refl _) _)
  go_upto_region 4 with (go_at_call 42; refine (HCN.out _).mono ?_; rintro e W1 ⟨rfl, hw⟩; skip; have HZx := Lib.hid (show Rg.Blk W1 w.heap.size 31 #[.string ⟨#[]⟩, .string ⟨#[]⟩, .slice none 0 0] from hw ▸ HZ.out); have HBx := Lib.hid (show Below w.heap.size w W1 from hw ▸ HB.out); clear HZ HB; have HZ := HZx; have HB := HBx; clear HZx HBx hw)
  go_wp2_with fail
  refine wp_loop_rounds 3 ?_
  rw [rounds_succ]
  go_wp2_with (first
    | (refine Cv.load_cells rfl 31 _ rfl b (o) rfl #[.string (strB (Tm.knd t)), .string (strB (Tm.txt t)), .slice At (Tm.prt t).length ct] _ (HC0.out _ HB.out) Tryd.underlying31 rfl (by kernel_rfl) ?_; skip)
    | (refine Rg.store_fresh rfl 31 _ _ rfl #[.string (strB (Tm.knd t)), .string (strB (Tm.txt t)), .slice At (Tm.prt t).length ct] _ 31 rfl rfl (by kernel_rfl) rfl (by simp [Value.oneCell']) ?_; intro XHX hX hbX; have HX := Lib.hid hX; have HBy := Lib.hid (HB.out.trans (Below.mono hbX HB.out.size)); clear HB; have HB := HBy; clear HBy; have HZy := Lib.hid (HZ.out.below hbX HZ.out.lt); clear HZ; have HZ := HZy; clear HZy; have x0 := HX.out.cell 0 (v := .string (strB (Tm.knd t))) rfl; have x1 := HX.out.cell 1 (v := .string (strB (Tm.txt t))) rfl; have x2 := HX.out.cell 2 (v := .slice At (Tm.prt t).length ct) rfl; clear hX hbX))
  rw [rounds_succ]
  go_upto_region 8 with (first
    | (refine Cv.load_cells rfl 31 _ rfl b (o + 3) rfl #[.string ⟨#[]⟩, .string ⟨#[]⟩, .slice none 0 0] _ (HC1.out _ HB.out) Tryd.underlying31 rfl (by kernel_rfl) ?_; skip)
    | (refine Rg.store_fresh rfl 31 _ _ rfl #[.string ⟨#[]⟩, .string ⟨#[]⟩, .slice none 0 0] _ 31 rfl rfl (by kernel_rfl) rfl (by simp [Value.oneCell']) ?_; intro XHY hX hbX; have HY := Lib.hid hX; have HBy := Lib.hid (HB.out.trans (Below.mono hbX HB.out.size)); clear HB; have HB := HBy; clear HBy; have HZy := Lib.hid (HZ.out.below hbX HZ.out.lt); clear HZ; have HZ := HZy; clear HZy; have y0 := HY.out.cell 0 (v := .string ⟨#[]⟩) rfl; have y1 := HY.out.cell 1 (v := .string ⟨#[]⟩) rfl; have y2 := HY.out.cell 2 (v := .slice none 0 0) rfl; clear hX hbX))
  refine wp_name (fun Zw hZw => ?_)
  have HZz := Lib.hid (show Rg.Blk Zw w.heap.size 31 #[.string ⟨#[]⟩, .string ⟨#[]⟩, .slice none 0 0] by rw [hZw]; first | exact HZ.out | exact HZ.out.alloc _ | exact HZ.out.below (bdN (Below.refl _ _) _) HZ.out.lt)
  have HBz := Lib.hid (show Below w.heap.size w Zw by rw [hZw]; first | exact HB.out | exact Below.alloc HB.out HB.out.size _ | exact bdN HB.out _)
  clear hZw
  refine RL.start (RDr w) (by kernel_rfl) ((show RDr w Zw from HBz.out).lat (Below.drew (Below.refl _ _))) ?_
  refine' RL.takeV (i := 0) (v := _) rfl (by kernel_rfl) (by kernel_rfl) (by kernel_rfl) (fun _ _ _ h => h) (by rfl) ?hk10 ?_
  case hk10 => (intro W hSW; go_simp; try with_reducible rfl)
  (try simp only [Act.put, List.setIfInBounds_toArray, List.set_cons_zero, List.set_cons_succ])
  refine' RL.takeV (i := 1) (v := _) rfl (by kernel_rfl) (by kernel_rfl) (by kernel_rfl) (fun _ _ _ h => h) (by rfl) ?hk11 ?_
  case hk11 => (intro W hSW; have e3 := HE.out W hSW; go_simp; try with_reducible rfl)
  (try simp only [Act.put, List.setIfInBounds_toArray, List.set_cons_zero, List.set_cons_succ])
  refine RL.stepK (i := 2) rfl (by kernel_rfl) (by rfl) (fun wa hlwa hswa K hK => ?_)
  have HZa := Lib.hid ((HZz.out.below (Below.drew (Below.refl _ _)) HZz.out.lt).below hlwa HZz.out.lt)
  refine store_blk_op 31 _ _ rfl w.heap.size #[.string ⟨#[]⟩, .string ⟨#[]⟩, .slice none 0 0] #[.string ⟨#[]⟩, .string ⟨#[]⟩, .slice none 0 0] 31 rfl rfl HZa.out (by kernel_rfl) rfl (by simp [Value.oneCell']) ?_
  intro V hV hgV
  have HV := Lib.hid hV
  refine hK.out _ _ (show RDr w V from Below.grown hswa hgV (Below.size hswa) (fun j hj => by cases hj; exact Nat.le_refl _)) ?_
  clear hK hgV hV
  (try simp only [Act.put, List.setIfInBounds_toArray, List.set_cons_zero, List.set_cons_succ])
  refine' RL.takeV (i := 3) (v := _) rfl (by kernel_rfl) (by kernel_rfl) (by kernel_rfl) (fun _ _ _ h => h) (by rfl) ?hk12 ?_
  case hk12 => (intro W hSW; go_simp; try with_reducible rfl)
  (try simp only [Act.put, List.setIfInBounds_toArray, List.set_cons_zero, List.set_cons_succ])
  refine RL.done (by kernel_rfl) (fun wd hlwd hswd => ?_)
  have HVd := Lib.hid (HV.out.below hlwd HV.out.lt)
  have HBd := Lib.hid (show Below w.heap.size w wd from hswd)
  clear hlwd hswd
  have p0 := HVd.out.cell 0 (v := .string ⟨#[]⟩) rfl
  have p1 := HVd.out.cell 1 (v := .string ⟨#[]⟩) rfl
  have p2 := HVd.out.cell 2 (v := .slice none 0 0) rfl
  have hz6 := HVd.out.lt
  go_wp2
  refine bodyPost_ret (v := .tuple #[.agg #[.string ⟨#[]⟩, .string ⟨#[]⟩, .slice none 0 0], .iface 137 (.pointer (some (a 3)))]) (by simp [results, Tryd.results29, go_sem, p0, p1, p2, hz6]) rfl ?_
  exact ⟨rfl, HBd.out⟩
theorem build_tp (w W : World) (hW : Below w.heap.size w W) (v : Value) (a b : Tm) (k : Nat) (h3 : 3 ≤ k) (h7 : k < 7) (h : TS (TP w) w v [a, b]) (ha : a.txt.length ≤ 5000) (hb : b.txt.length ≤ 5000) :
    Calls Tryd.prog 35 #[.string (strB (word k)), v] W fun e w' => ∃ A c, e = .returned (.agg (tv (mk2 k a b) (.slice A (Tm.prt (mk2 k a b)).length c))) ∧ TP w' (mk2 k a b) (.slice A (Tm.prt (mk2 k a b)).length c) ∧ Below W.heap.size W w' := by
  have hQ : ∀ t p, TP w t p → p.oneCell' = true := fun t p h => h.one
  have key : ∀ (w' : World) (g c : Nat) (pa pb : Value) (x y : Tm), 2 ≤ c → c ≤ maxLen → w'.rangeAt g 0 (tcs [(x, pa), (y, pb)]) → TP w x pa → TP w y pb → Below W.heap.size W w' → TP w' (.two k x y) (.slice (some ⟨g, 0, none⟩) 2 c) := fun w' g c pa pb x y h4 h5 h6 h7 h8 h9 =>
    ⟨_, _, pa, pb, rfl, h4, h5, rd_of_range h6, h7.below (hW.trans (Below.mono h9 hW.size)), h8.below (hW.trans (Below.mono h9 hW.size))⟩
  unfold mk2
  split
  · rename_i hs
    obtain ⟨rfl, hlt⟩ := hs
    exact (build_shs hQ W v a b hlt (h.below hW) ha hb).mono fun e w' ⟨g, c, pa, pb, h1, h2, h3, h4, h5, h6, h7, h8, h9⟩ => ⟨some ⟨g, 0, none⟩, c, h1, key w' g c _ _ _ _ h4 h5 h6 (by assumption) (by assumption) h9, h9⟩
  · rename_i hs
    by_cases hk : k = 4
    · subst hk
      exact (build_shn hQ W v a b (fun e => hs ⟨rfl, e⟩) (h.below hW) ha hb).mono fun e w' ⟨g, c, pa, pb, h1, h2, h3, h4, h5, h6, h7, h8, h9⟩ => ⟨some ⟨g, 0, none⟩, c, h1, key w' g c _ _ _ _ h4 h5 h6 h7 h8 h9, h9⟩
    · exact (build_two hQ W v a b k h3 h7 hk (h.below hW) ha hb).mono fun e w' ⟨g, c, pa, pb, h1, h2, h3, h4, h5, h6, h7, h8, h9⟩ => ⟨some ⟨g, 0, none⟩, c, h1, key w' g c _ _ _ _ h4 h5 h6 h7 h8 h9, h9⟩
set_option maxRecDepth 20000 in
set_option maxHeartbeats 8000000 in
theorem Make_ok1 (w : World) (k : Nat) (hk : k < 3) (b o c : Nat) (t : Tm) (ht : t.wf) (hlt : t.txt.length ≤ 100) (At : Option Addr) (ct : Nat) (hlb : b < w.heap.size) (hc0 : ∀ j v, (#[.string (strB (Tm.knd t)), .string (strB (Tm.txt t)), .slice At (Tm.prt t).length ct] : Array Value)[j]? = some v → w.cell? ⟨b, o + 0 + j, none⟩ = some v) (hts : TS (TP w) w (.slice (some ⟨b, o, none⟩) 1 c) [t]) :
    Calls Tryd.prog 29 #[.string (strB (word k)), .slice (some ⟨b, o, none⟩) 1 c] w fun e w' => ∃ A c, e = .returned (.tuple #[.agg (tv (Tm.one k t) (.slice A (Tm.prt (Tm.one k t)).length c)), .nilIface]) ∧ TP w' (Tm.one k t) (.slice A (Tm.prt (Tm.one k t)).length c) ∧ Below w.heap.size w w' := by
  have hcn : cnt (word k) = 1 := cnt_one hk
  have HCN := Lib.hid (fun W => hcn ▸ count_any W (word k))
  have HC0 := Lib.hid (show ∀ W, Below w.heap.size w W → ∀ j v, (#[.string (strB (Tm.knd t)), .string (strB (Tm.txt t)), .slice At (Tm.prt t).length ct] : Array Value)[j]? = some v → W.cell? ⟨b, o + j, none⟩ = some v from fun W hW j v hv => (hW.cell (p := ⟨b, o + j, none⟩) hlb).trans (hc0 j v hv))
  have htet : ((strB (Tm.txt t)).toList == []) = false := by rw [strB_toList, beq_eq_false_iff_ne]; exact txt_ne ht
  have HBD := Lib.hid (show ∀ W, Below w.heap.size w W → Calls Tryd.prog 35 #[.string (strB (word k)), .slice (some ⟨b, o, none⟩) 1 c] W fun e w' => ∃ A c, e = .returned (.agg (tv (.one k t) (.slice A (Tm.prt (.one k t)).length c))) ∧ TP w' (.one k t) (.slice A (Tm.prt (.one k t)).length c) ∧ Below W.heap.size W w' from fun W hW => (build_one (fun t p (h : TP w t p) => h.one) W (.slice (some ⟨b, o, none⟩) 1 c) t k hk (hts.below hW) (by omega)).mono fun e w' ⟨g, c, pa, h1, h2, h3, h4, h5, h6, h7, h8⟩ => ⟨some ⟨g, 0, none⟩, c, h1, ⟨_, _, pa, rfl, h4, h5, rd_of_range h6, h7.below (hW.trans (Below.mono h8 hW.size))⟩, h8⟩)
  have HTL := Lib.hid (show (Tm.txt (Tm.one k t)).length ≤ 300 by simp [Tm.txt]; have := word_len k; omega)
  clear hcn hlb hc0 ht hlt hts hk
  obtain ⟨T, hT⟩ : ∃ T, (Tm.one k t) = T := ⟨_, rfl⟩
  rw [hT] at HBD HTL ⊢
  clear hT
  have hdl : decide ((1000 : Int) < ((strB T.txt).size : Int)) = false := by rw [strB_size]; simp; have := HTL.out; omega
  have hdln : decide (1000 < (strB T.txt).size) = false := by rw [strB_size]; simp; have := HTL.out; omega
  go_enter Tryd.func29, Tryd.ntmps29
  have HZ := Lib.hid (Rg.Blk.new w #[.string ⟨#[]⟩, .string ⟨#[]⟩, .slice none 0 0] 31)
  have HB := Lib.hid (show Below w.heap.size w (w.alloc (.cells #[.string ⟨#[]⟩, .string ⟨#[]⟩, .slice none 0 0] 31)) from (Below.refl _ _).alloc (Nat.le_refl _) _)
  go_upto_region 4 with (go_at_call 42; refine (HCN.out _).mono ?_; rintro e W1 ⟨rfl, hw⟩; skip; have HZx := Lib.hid (show Rg.Blk W1 w.heap.size 31 #[.string ⟨#[]⟩, .string ⟨#[]⟩, .slice none 0 0] from hw ▸ HZ.out); have HBx := Lib.hid (show Below w.heap.size w W1 from hw ▸ HB.out); clear HZ HB; have HZ := HZx; have HB := HBx; clear HZx HBx hw)
  go_wp2_with fail
  refine wp_loop_rounds 2 ?_
  rw [rounds_succ]
  go_wp2_with (first
    | (refine Cv.load_cells rfl 31 _ rfl b (o) rfl #[.string (strB (Tm.knd t)), .string (strB (Tm.txt t)), .slice At (Tm.prt t).length ct] _ (HC0.out _ HB.out) Tryd.underlying31 rfl (by kernel_rfl) ?_; skip)
    | (refine Rg.store_fresh rfl 31 _ _ rfl #[.string (strB (Tm.knd t)), .string (strB (Tm.txt t)), .slice At (Tm.prt t).length ct] _ 31 rfl rfl (by kernel_rfl) rfl (by simp [Value.oneCell']) ?_; intro XHX0 hX hbX; have HX0 := Lib.hid hX; have HBy := Lib.hid (HB.out.trans (Below.mono hbX HB.out.size)); clear HB; have HB := HBy; clear HBy; have HZy := Lib.hid (HZ.out.below hbX HZ.out.lt); clear HZ; have HZ := HZy; clear HZy; have x00 := HX0.out.cell 0 (v := .string (strB (Tm.knd t))) rfl; have x01 := HX0.out.cell 1 (v := .string (strB (Tm.txt t))) rfl; have x02 := HX0.out.cell 2 (v := .slice At (Tm.prt t).length ct) rfl; clear hX hbX))
  rw [rounds_succ]
  go_wp2_with (first
    | (go_at_call 35; refine (HBD.out _ HB.out).mono ?_; rintro e W5 ⟨A9, c9, rfl, htp, hb⟩; skip; have HTP := Lib.hid htp; have HBy := Lib.hid (HB.out.trans (Below.mono hb HB.out.size)); clear HB; have HB := HBy; clear HBy; have HZy := Lib.hid (HZ.out.below hb HZ.out.lt); clear HZ; have HZ := HZy; clear HZy; clear hb htp)
    | (refine Rg.store_fresh rfl 31 _ _ rfl #[.string (strB (Tm.knd T)), .string (strB (Tm.txt T)), .slice A9 (Tm.prt T).length c9] _ 31 rfl rfl (by kernel_rfl) rfl (by simp [Value.oneCell']) ?_; intro XT hX hbX; have HXT := Lib.hid hX; have HBy := Lib.hid (HB.out.trans (Below.mono hbX HB.out.size)); clear HB; have HB := HBy; clear HBy; have HTPy := Lib.hid (HTP.out.below hbX); clear HTP; have HTP := HTPy; clear HTPy; have HZy := Lib.hid (HZ.out.below hbX HZ.out.lt); clear HZ; have HZ := HZy; clear HZy; have q1 := HXT.out.cell 1 (v := .string (strB (Tm.txt T))) rfl; clear hX hbX)
    | (refine Cv.load_cells rfl 31 _ rfl W5.heap.size 0 rfl #[.string (strB (Tm.knd T)), .string (strB (Tm.txt T)), .slice A9 (Tm.prt T).length c9] _ (fun j v hv => by rw [Nat.zero_add]; exact HXT.out.cell j hv) Tryd.underlying31 rfl (by kernel_rfl) ?_; skip)
    | (refine Cv.store_blk rfl 31 _ _ rfl w.heap.size #[.string (strB (Tm.knd T)), .string (strB (Tm.txt T)), .slice A9 (Tm.prt T).length c9] #[.string ⟨#[]⟩, .string ⟨#[]⟩, .slice none 0 0] 31 rfl rfl HZ.out (by kernel_rfl) rfl (by simp [Value.oneCell']) ?_; intro V hV hgV; have HV := Lib.hid hV; have HGV := Lib.hid hgV; clear hV hgV))
  have p0 := HV.out.cell 0 (v := .string (strB (Tm.knd T))) rfl
  have p1 := HV.out.cell 1 (v := .string (strB (Tm.txt T))) rfl
  have p2 := HV.out.cell 2 (v := .slice A9 (Tm.prt T).length c9) rfl
  have hz6 := HV.out.lt
  refine bodyPost_ret (v := .tuple #[.agg (tv T (.slice A9 (Tm.prt T).length c9)), .nilIface]) (by simp [tv, results, Tryd.results29, go_sem, p0, p1, p2, hz6]) rfl ?_
  exact ⟨_, _, rfl, HTP.out.zero HZ.out HGV.out, HB.out.grown HGV.out HB.out.size (fun j hj => by cases hj; exact Nat.le_refl _)⟩
set_option maxRecDepth 20000 in
set_option maxHeartbeats 8000000 in
theorem Make_ok2 (w : World) (k : Nat) (h3 : 3 ≤ k) (hk : k < 7) (b o c : Nat) (t : Tm) (ht : t.wf) (hlt : t.txt.length ≤ 100) (At : Option Addr) (ct : Nat) (u : Tm) (hu : u.wf) (hlu : u.txt.length ≤ 100) (Au : Option Addr) (cu : Nat) (hlb : b < w.heap.size) (hc0 : ∀ j v, (#[.string (strB (Tm.knd t)), .string (strB (Tm.txt t)), .slice At (Tm.prt t).length ct] : Array Value)[j]? = some v → w.cell? ⟨b, o + 0 + j, none⟩ = some v) (hc1 : ∀ j v, (#[.string (strB (Tm.knd u)), .string (strB (Tm.txt u)), .slice Au (Tm.prt u).length cu] : Array Value)[j]? = some v → w.cell? ⟨b, o + 3 + j, none⟩ = some v) (hts : TS (TP w) w (.slice (some ⟨b, o, none⟩) 2 c) [t, u]) :
    Calls Tryd.prog 29 #[.string (strB (word k)), .slice (some ⟨b, o, none⟩) 2 c] w fun e w' => ∃ A c, e = .returned (.tuple #[.agg (tv (mk2 k t u) (.slice A (Tm.prt (mk2 k t u)).length c)), .nilIface]) ∧ TP w' (mk2 k t u) (.slice A (Tm.prt (mk2 k t u)).length c) ∧ Below w.heap.size w w' := by
  have hcn : cnt (word k) = 2 := cnt_two h3 hk
  have HCN := Lib.hid (fun W => hcn ▸ count_any W (word k))
  have HC0 := Lib.hid (show ∀ W, Below w.heap.size w W → ∀ j v, (#[.string (strB (Tm.knd t)), .string (strB (Tm.txt t)), .slice At (Tm.prt t).length ct] : Array Value)[j]? = some v → W.cell? ⟨b, o + j, none⟩ = some v from fun W hW j v hv => (hW.cell (p := ⟨b, o + j, none⟩) hlb).trans (hc0 j v hv))
  have HC1 := Lib.hid (show ∀ W, Below w.heap.size w W → ∀ j v, (#[.string (strB (Tm.knd u)), .string (strB (Tm.txt u)), .slice Au (Tm.prt u).length cu] : Array Value)[j]? = some v → W.cell? ⟨b, o + 3 + j, none⟩ = some v from fun W hW j v hv => (hW.cell (p := ⟨b, o + 3 + j, none⟩) hlb).trans (hc1 j v hv))
  have htet : ((strB (Tm.txt t)).toList == []) = false := by rw [strB_toList, beq_eq_false_iff_ne]; exact txt_ne ht
  have hteu : ((strB (Tm.txt u)).toList == []) = false := by rw [strB_toList, beq_eq_false_iff_ne]; exact txt_ne hu
  have HBD := Lib.hid (show ∀ W, Below w.heap.size w W → Calls Tryd.prog 35 #[.string (strB (word k)), .slice (some ⟨b, o, none⟩) 2 c] W fun e w' => ∃ A c, e = .returned (.agg (tv (mk2 k t u) (.slice A (Tm.prt (mk2 k t u)).length c))) ∧ TP w' (mk2 k t u) (.slice A (Tm.prt (mk2 k t u)).length c) ∧ Below W.heap.size W w' from fun W hW => build_tp w W hW (.slice (some ⟨b, o, none⟩) 2 c) t u k h3 hk hts (by omega) (by omega))
  have HTL := Lib.hid (show (Tm.txt (mk2 k t u)).length ≤ 300 by rw [mk2_len]; simp [Tm.txt]; have := word_len k; omega)
  clear hcn hlb hc0 ht hlt hc1 hu hlu hts hk h3
  obtain ⟨T, hT⟩ : ∃ T, (mk2 k t u) = T := ⟨_, rfl⟩
  rw [hT] at HBD HTL ⊢
  clear hT
  have hdl : decide ((1000 : Int) < ((strB T.txt).size : Int)) = false := by rw [strB_size]; simp; have := HTL.out; omega
  have hdln : decide (1000 < (strB T.txt).size) = false := by rw [strB_size]; simp; have := HTL.out; omega
  go_enter Tryd.func29, Tryd.ntmps29
  have HZ := Lib.hid (Rg.Blk.new w #[.string ⟨#[]⟩, .string ⟨#[]⟩, .slice none 0 0] 31)
  have HB := Lib.hid (show Below w.heap.size w (w.alloc (.cells #[.string ⟨#[]⟩, .string ⟨#[]⟩, .slice none 0 0] 31)) from (Below.refl _ _).alloc (Nat.le_refl _) _)
  go_upto_region 4 with (go_at_call 42; refine (HCN.out _).mono ?_; rintro e W1 ⟨rfl, hw⟩; skip; have HZx := Lib.hid (show Rg.Blk W1 w.heap.size 31 #[.string ⟨#[]⟩, .string ⟨#[]⟩, .slice none 0 0] from hw ▸ HZ.out); have HBx := Lib.hid (show Below w.heap.size w W1 from hw ▸ HB.out); clear HZ HB; have HZ := HZx; have HB := HBx; clear HZx HBx hw)
  go_wp2_with fail
  refine wp_loop_rounds 3 ?_
  rw [rounds_succ]
  go_wp2_with (first
    | (refine Cv.load_cells rfl 31 _ rfl b (o) rfl #[.string (strB (Tm.knd t)), .string (strB (Tm.txt t)), .slice At (Tm.prt t).length ct] _ (HC0.out _ HB.out) Tryd.underlying31 rfl (by kernel_rfl) ?_; skip)
    | (refine Rg.store_fresh rfl 31 _ _ rfl #[.string (strB (Tm.knd t)), .string (strB (Tm.txt t)), .slice At (Tm.prt t).length ct] _ 31 rfl rfl (by kernel_rfl) rfl (by simp [Value.oneCell']) ?_; intro XHX0 hX hbX; have HX0 := Lib.hid hX; have HBy := Lib.hid (HB.out.trans (Below.mono hbX HB.out.size)); clear HB; have HB := HBy; clear HBy; have HZy := Lib.hid (HZ.out.below hbX HZ.out.lt); clear HZ; have HZ := HZy; clear HZy; have x00 := HX0.out.cell 0 (v := .string (strB (Tm.knd t))) rfl; have x01 := HX0.out.cell 1 (v := .string (strB (Tm.txt t))) rfl; have x02 := HX0.out.cell 2 (v := .slice At (Tm.prt t).length ct) rfl; clear hX hbX))
  rw [rounds_succ]
  go_wp2_with (first
    | (refine Cv.load_cells rfl 31 _ rfl b (o + 3) rfl #[.string (strB (Tm.knd u)), .string (strB (Tm.txt u)), .slice Au (Tm.prt u).length cu] _ (HC1.out _ HB.out) Tryd.underlying31 rfl (by kernel_rfl) ?_; skip)
    | (refine Rg.store_fresh rfl 31 _ _ rfl #[.string (strB (Tm.knd u)), .string (strB (Tm.txt u)), .slice Au (Tm.prt u).length cu] _ 31 rfl rfl (by kernel_rfl) rfl (by simp [Value.oneCell']) ?_; intro XHX1 hX hbX; have HX1 := Lib.hid hX; have HBy := Lib.hid (HB.out.trans (Below.mono hbX HB.out.size)); clear HB; have HB := HBy; clear HBy; have HZy := Lib.hid (HZ.out.below hbX HZ.out.lt); clear HZ; have HZ := HZy; clear HZy; have x10 := HX1.out.cell 0 (v := .string (strB (Tm.knd u))) rfl; have x11 := HX1.out.cell 1 (v := .string (strB (Tm.txt u))) rfl; have x12 := HX1.out.cell 2 (v := .slice Au (Tm.prt u).length cu) rfl; clear hX hbX))
  rw [rounds_succ]
  go_wp2_with (first
    | (go_at_call 35; refine (HBD.out _ HB.out).mono ?_; rintro e W5 ⟨A9, c9, rfl, htp, hb⟩; skip; have HTP := Lib.hid htp; have HBy := Lib.hid (HB.out.trans (Below.mono hb HB.out.size)); clear HB; have HB := HBy; clear HBy; have HZy := Lib.hid (HZ.out.below hb HZ.out.lt); clear HZ; have HZ := HZy; clear HZy; clear hb htp)
    | (refine Rg.store_fresh rfl 31 _ _ rfl #[.string (strB (Tm.knd T)), .string (strB (Tm.txt T)), .slice A9 (Tm.prt T).length c9] _ 31 rfl rfl (by kernel_rfl) rfl (by simp [Value.oneCell']) ?_; intro XT hX hbX; have HXT := Lib.hid hX; have HBy := Lib.hid (HB.out.trans (Below.mono hbX HB.out.size)); clear HB; have HB := HBy; clear HBy; have HTPy := Lib.hid (HTP.out.below hbX); clear HTP; have HTP := HTPy; clear HTPy; have HZy := Lib.hid (HZ.out.below hbX HZ.out.lt); clear HZ; have HZ := HZy; clear HZy; have q1 := HXT.out.cell 1 (v := .string (strB (Tm.txt T))) rfl; clear hX hbX)
    | (refine Cv.load_cells rfl 31 _ rfl W5.heap.size 0 rfl #[.string (strB (Tm.knd T)), .string (strB (Tm.txt T)), .slice A9 (Tm.prt T).length c9] _ (fun j v hv => by rw [Nat.zero_add]; exact HXT.out.cell j hv) Tryd.underlying31 rfl (by kernel_rfl) ?_; skip)
    | (refine Cv.store_blk rfl 31 _ _ rfl w.heap.size #[.string (strB (Tm.knd T)), .string (strB (Tm.txt T)), .slice A9 (Tm.prt T).length c9] #[.string ⟨#[]⟩, .string ⟨#[]⟩, .slice none 0 0] 31 rfl rfl HZ.out (by kernel_rfl) rfl (by simp [Value.oneCell']) ?_; intro V hV hgV; have HV := Lib.hid hV; have HGV := Lib.hid hgV; clear hV hgV))
  have p0 := HV.out.cell 0 (v := .string (strB (Tm.knd T))) rfl
  have p1 := HV.out.cell 1 (v := .string (strB (Tm.txt T))) rfl
  have p2 := HV.out.cell 2 (v := .slice A9 (Tm.prt T).length c9) rfl
  have hz6 := HV.out.lt
  refine bodyPost_ret (v := .tuple #[.agg (tv T (.slice A9 (Tm.prt T).length c9)), .nilIface]) (by simp [tv, results, Tryd.results29, go_sem, p0, p1, p2, hz6]) rfl ?_
  exact ⟨_, _, rfl, HTP.out.zero HZ.out HGV.out, HB.out.grown HGV.out HB.out.size (fun j hj => by cases hj; exact Nat.le_refl _)⟩
end Go.Proofs.YtfcemnebhapidaaDoor.Te
