/- (message.Msg).counted: has a message as many of each as its letters? -/
import Derived.Test.YtjfikbnfabdkoaaGreatDoorMsgB
import Derived.Test.YtjfikbnfabdkoaaGreatDoorGenA
import Derived.Test.YtjfikbnfabdkoaaGreatDoorShelf
set_option linter.unusedVariables false
set_option linter.unusedSimpArgs false
namespace Go.Proofs.YtjfikbnfabdkoaaGreatDoor.Mg
open Go.RowKit Go.Proofs.YtjfikbnfabdkoaaGreatDoor.Wi Go.Proofs.YtjfikbnfabdkoaaGreatDoor.Ow Go.Proofs.YtjfikbnfabdkoaaGreatDoor.Be
def cntL (l cs : List UInt8) : Nat := (cs.map fun c => l.count c).sum
theorem cntL_take (l cs : List UInt8) (k : Nat) (c : UInt8) (h : cs[k]? = some c) : cntL l (cs.take (k + 1)) = cntL l (cs.take k) + l.count c := by
  unfold cntL; rw [List.take_add_one, h]; simp
theorem cntL_le (l cs : List UInt8) : cntL l cs ≤ cs.length * l.length := by
  unfold cntL
  induction cs with
  | nil => simp
  | cons c cs ih => simp only [List.map_cons, List.sum_cons, List.length_cons, Nat.succ_mul]; have := List.count_le_length (a := c) (l := l); omega
def oneS (c : UInt8) : ByteArray := ⟨#[c]⟩
def oneV (c : UInt8) : Value := .string (oneS c)
set_option maxRecDepth 20000 in
set_option maxHeartbeats 1000000 in
theorem count_fun (w : World) (lb : Nat) (A : Option Addr) (n c : Nat) (l cs : List UInt8) (hn : cs.length = n) (hN : n ≤ 10) (hl : l.length ≤ 100) (hB : Rg.Blk w lb 9 #[.string (mkS l)]) (hR : Rd w A (cs.map oneV)) :
    Calls Tryz.prog 72 #[.slice A n c, .pointer (some ⟨lb, 0, none⟩)] w fun e w' => e = .returned (.int .i64 (cntL l cs : Nat)) ∧ w = w' := by
  have HN := Lib.hid hn
  have HR := Lib.hid hR
  have HL := Lib.hid hl
  have HC := Lib.hid (fun k => cntL_take l cs k)
  have c0 := hB.cell 0 (v := .string (mkS l)) rfl
  have HLL := Lib.hid (mkS_list l)
  generalize mkS l = ls at *
  clear hn hR hB hl
  go_enter Tryz.func72, Tryz.ntmps72
  go_wp2_with fail
  go_loop [4, 9] (fun s i => ∃ k : Nat, k ≤ n ∧ i = .int .i64 k ∧ s = .int .i64 (cntL l (cs.take k) : Nat)) (fun _ i => n - (intOf i).toNat)
  case atStart => exact ⟨0, Nat.zero_le _, rfl, rfl⟩
  case round =>
    obtain ⟨k, hk, rfl, rfl⟩ := hrel
    by_cases hkn : k < n
    · have hd : decide (k < n) = true := by simp; exact hkn
      have hik : (k : Int) < n := by omega
      have hx : cs[k]? = some (cs[k]'(by rw [HN.out]; exact hkn)) := List.getElem?_eq_getElem _
      obtain ⟨b, o, rfl, _, hcell⟩ := HR.out.at_ (j := k) (by rw [List.length_map, HN.out]; exact hkn)
      rw [List.getElem_map] at hcell
      generalize cs[k]'(by rw [HN.out]; exact hkn) = x at *
      unfold oneV oneS at hcell
      have HX := Lib.hid (HC.out k x hx)
      have h1 : cntL l (cs.take k) ≤ k * 100 := by
        have h1 := cntL_le l (cs.take k)
        rw [List.length_take] at h1
        have h2 : min k cs.length * l.length ≤ k * 100 := Nat.mul_le_mul (Nat.min_le_left _ _) HL.out
        omega
      have h2 : l.count x ≤ 100 := Nat.le_trans List.count_le_length HL.out
      have HCN := Lib.hid (show Calls Tryz.prog 73 #[.string ls, .string ⟨#[x]⟩] w fun e w' => e = .returned (.int .i64 (l.count x : Nat)) ∧ w' = w by
        have := Tryz.strings_Count_one ls x w
        unfold Lib.countByte at this
        rw [HLL.out] at this; exact this)
      generalize l.count x = q at *
      generalize cntL l (cs.take k) = p at *
      clear hx
      go_wp2_with (go_at_call 73; refine HCN.out.mono ?_; rintro e w3 ⟨rfl, rfl⟩; skip)
      go_round
      case rel => exact ⟨k + 1, by omega, by go_num, by rw [HX.out]; go_num⟩
      case measure => simp [intOf]; omega
    · obtain rfl : k = n := by omega
      have hd : decide (k < k) = false := by simp
      have HA := Lib.hid (show cs.take k = cs from List.take_of_length_le (Nat.le_of_eq HN.out))
      go_wp2_with fail
      go_ret
      exact ⟨by rw [HA.out]; rfl, rfl⟩
/-- a slice of single letters, as it is built -/
theorem rd_ones (W : World) (b : Nat) (cs : List UInt8) (h : Rg.Blk W b 9 (cs.map oneV).toArray) : Rd W (some ⟨b, 0, none⟩) (cs.map oneV) := fun j x hx => ⟨b, 0, rfl, h.lt, by rw [Nat.zero_add]; exact h.cell j (by simpa using hx)⟩
theorem Blk.cellAft {X W : World} {b T : Nat} {cs : Array Value} (h : Rg.Blk X b T cs) (hA : RL.Aft X W) (j : Nat) {v : Value} (hv : cs[j]? = some v) : W.cell? ⟨b, j, none⟩ = some v := (Rg.Blk.below h hA h.lt).cell j hv
set_option maxRecDepth 20000 in
set_option maxHeartbeats 4000000 in
theorem counted_f0 (w : World) (kind : Int) (au aS an ab : Option Addr) (nu ns nn nb cu cs cn cb : Nat) (l : List UInt8) (hl : l.length ≤ 100)
    (h0 : ¬ nu = cntL l [117])
    : Calls Tryz.prog 62 #[.agg (mC kind (.slice au nu cu) (.slice aS ns cs) (.slice an nn cn) (.slice ab nb cb)), .string (mkS l)] w fun e w' => e = .returned (.bool false) ∧ Below w.heap.size w w' := by
  have hmf : ∀ (fn : Fn) (first cap : Array Value) (w : World), (Instr.makeFunc fn first cap).run Tryz.prog w = .ok (.func fn first cap) w := fun _ _ _ _ => rfl
  have HL := Lib.hid hl
  obtain ⟨ls, hls⟩ : ∃ ls, mkS l = ls := ⟨_, rfl⟩
  rw [hls]
  have HLS := Lib.hid hls
  clear hl hls
  unfold mC
  go_enter Tryz.func62, Tryz.ntmps62
  go_wp2_with fail
  have hM : Rg.Blk ((w.alloc (.cells #[.int .i64 kind, .slice au nu cu, .slice aS ns cs, .slice an nn cn, .slice ab nb cb] 47)).alloc (.cells #[.string ls] 9)) w.heap.size 47 #[.int .i64 kind, .slice au nu cu, .slice aS ns cs, .slice an nn cn, .slice ab nb cb] := (Rg.Blk.new w _ _).alloc _
  have hL : Rg.Blk ((w.alloc (.cells #[.int .i64 kind, .slice au nu cu, .slice aS ns cs, .slice an nn cn, .slice ab nb cb] 47)).alloc (.cells #[.string ls] 9)) (w.heap.size + 1) 9 #[.string ls] := Rg.Blk.newAt (by simp) _ _
  have hXW : Below w.heap.size w ((w.alloc (.cells #[.int .i64 kind, .slice au nu cu, .slice aS ns cs, .slice an nn cn, .slice ab nb cb] 47)).alloc (.cells #[.string ls] 9)) := ((Below.refl _ _).alloc (Nat.le_refl _) _).alloc (by simp) _
  generalize ((w.alloc (.cells #[.int .i64 kind, .slice au nu cu, .slice aS ns cs, .slice an nn cn, .slice ab nb cb] 47)).alloc (.cells #[.string ls] 9)) = X at *
  have HM := Lib.hid hM
  have HXW := Lib.hid hXW
  have HCF := Lib.hid (show ∀ (W : World) (b : Nat) (cs : List UInt8), cs.length ≤ 10 → RL.Aft X W → Rg.Blk W b 9 (cs.map oneV).toArray → Calls Tryz.prog 72 #[.slice (some ⟨b, 0, none⟩) cs.length cs.length, .pointer (some ⟨w.heap.size + 1, 0, none⟩)] W fun e w' => e = .returned (.int .i64 (cntL l cs : Nat)) ∧ W = w' from fun W b cs hcs hA hB => count_fun W _ _ _ _ l cs rfl hcs HL.out (by rw [HLS.out]; exact hL.below hA hL.lt) (rd_ones W b cs hB))
  clear hM hL hXW
  have e0 : ((nu : Int) == (cntL l [117] : Nat)) = false := by rw [beq_eq_false_iff_ne]; omega
  clear h0
  refine RL.start (RL.Aft X) (by kernel_rfl) (RL.Aft.drew (RL.Aft.refl X)) ?_
  refine' RL.takeV (i := 0) (v := _) rfl (by kernel_rfl) (by kernel_rfl) (by kernel_rfl) (fun _ _ _ h => h) (by rfl) ?hc0x0 ?rc0x0
  case hc0x0 => (intro W hSW; go_simp; try with_reducible rfl)
  (try simp only [Act.put, List.setIfInBounds_toArray, List.set_cons_zero, List.set_cons_succ])
  refine' RL.takeV (i := 1) (v := _) rfl (by kernel_rfl) (by kernel_rfl) (by kernel_rfl) (fun _ _ _ h => h) (by rfl) ?hc0x1 ?rc0x1
  case hc0x1 => (intro W hSW; have g := Blk.cellAft HM.out hSW 1 (v := .slice au nu cu) rfl; go_simp; try with_reducible rfl)
  (try simp only [Act.put, List.setIfInBounds_toArray, List.set_cons_zero, List.set_cons_succ])
  refine' RL.takeV (i := 2) (v := _) rfl (by kernel_rfl) (by kernel_rfl) (by kernel_rfl) (fun _ _ _ h => h) (by rfl) ?hc0x2 ?rc0x2
  case hc0x2 => (intro W hSW; go_simp; try with_reducible rfl)
  (try simp only [Act.put, List.setIfInBounds_toArray, List.set_cons_zero, List.set_cons_succ])
  refine' RL.takeV (i := 3) (v := _) rfl (by kernel_rfl) (by kernel_rfl) (by kernel_rfl) (fun _ _ _ h => h) (by rfl) ?hc0x3 ?rc0x3
  case hc0x3 => (intro W hSW; go_simp; try with_reducible rfl)
  (try simp only [Act.put, List.setIfInBounds_toArray, List.set_cons_zero, List.set_cons_succ])
  refine RL.stepK (i := 4) rfl (by kernel_rfl) (by rfl) (fun wa0 hla0 hsa0 K hK => ?_)
  go_simp
  refine hK.out _ _ (RL.Aft.alloc hsa0 _) ?_
  clear hK
  (try simp only [Act.put, List.setIfInBounds_toArray, List.set_cons_zero, List.set_cons_succ])
  refine RL.stepK (i := 5) rfl (by kernel_rfl) (by rfl) (fun wb0 hlb0 hsb0 K hK => ?_)
  have hcf := HCF.out wb0 wa0.heap.size [117] (by decide) hsb0 (Rg.Blk.below (Rg.Blk.new wa0 _ _) hlb0 (by simp))
  simp only [List.length_cons, List.length_nil, Nat.reduceAdd] at hcf
  go_simp
  refine hcf.mono ?_
  rintro e w3 ⟨rfl, rfl⟩
  refine hK.out _ _ hsb0 ?_
  clear hK
  (try simp only [Act.put, List.setIfInBounds_toArray, List.set_cons_zero, List.set_cons_succ])
  refine' RL.takeV (i := 6) (v := _) rfl (by kernel_rfl) (by kernel_rfl) (by kernel_rfl) (fun _ _ _ h => h) (by rfl) ?hc0x6 ?rc0x6
  case hc0x6 => (intro W hSW; go_simp; try with_reducible rfl)
  (try simp only [Act.put, List.setIfInBounds_toArray, List.set_cons_zero, List.set_cons_succ])
  refine' RL.takeV (i := 7) (v := _) rfl (by kernel_rfl) (by kernel_rfl) (by kernel_rfl) (fun _ _ _ h => h) (by rfl) ?hp7 ?rp7
  case hp7 => (intro W hSW; go_simp; try with_reducible rfl)
  (try simp only [Act.put, List.setIfInBounds_toArray, List.set_cons_zero, List.set_cons_succ])
  refine' RL.takeU (i := 8) rfl (by kernel_rfl) (by kernel_rfl) (by kernel_rfl) (fun _ _ _ h => h) (by rfl) ?_
  (try simp only [Act.put, List.setIfInBounds_toArray, List.set_cons_zero, List.set_cons_succ])
  refine' RL.takeU (i := 9) rfl (by kernel_rfl) (by kernel_rfl) (by kernel_rfl) (fun _ _ _ h => h) (by rfl) ?_
  (try simp only [Act.put, List.setIfInBounds_toArray, List.set_cons_zero, List.set_cons_succ])
  refine' RL.takeU (i := 10) rfl (by kernel_rfl) (by kernel_rfl) (by kernel_rfl) (fun _ _ _ h => h) (by rfl) ?_
  (try simp only [Act.put, List.setIfInBounds_toArray, List.set_cons_zero, List.set_cons_succ])
  refine' RL.takeU (i := 11) rfl (by kernel_rfl) (by kernel_rfl) (by kernel_rfl) (fun _ _ _ h => h) (by rfl) ?_
  (try simp only [Act.put, List.setIfInBounds_toArray, List.set_cons_zero, List.set_cons_succ])
  refine' RL.takeU (i := 12) rfl (by kernel_rfl) (by kernel_rfl) (by kernel_rfl) (fun _ _ _ h => h) (by rfl) ?_
  (try simp only [Act.put, List.setIfInBounds_toArray, List.set_cons_zero, List.set_cons_succ])
  refine' RL.takeU (i := 13) rfl (by kernel_rfl) (by kernel_rfl) (by kernel_rfl) (fun _ _ _ h => h) (by rfl) ?_
  (try simp only [Act.put, List.setIfInBounds_toArray, List.set_cons_zero, List.set_cons_succ])
  refine' RL.takeU (i := 14) rfl (by kernel_rfl) (by kernel_rfl) (by kernel_rfl) (fun _ _ _ h => h) (by rfl) ?_
  (try simp only [Act.put, List.setIfInBounds_toArray, List.set_cons_zero, List.set_cons_succ])
  refine' RL.takeV (i := 15) (v := _) rfl (by kernel_rfl) (by kernel_rfl) (by kernel_rfl) (fun _ _ _ h => h) (by rfl) ?hp15 ?rp15
  case hp15 => (intro W hSW; go_simp; try with_reducible rfl)
  (try simp only [Act.put, List.setIfInBounds_toArray, List.set_cons_zero, List.set_cons_succ])
  refine' RL.takeV (i := 16) (v := _) rfl (by kernel_rfl) (by kernel_rfl) (by kernel_rfl) (fun _ _ _ h => h) (by rfl) ?hp16 ?rp16
  case hp16 => (intro W hSW; go_simp; try with_reducible rfl)
  (try simp only [Act.put, List.setIfInBounds_toArray, List.set_cons_zero, List.set_cons_succ])
  refine' RL.takeU (i := 17) rfl (by kernel_rfl) (by kernel_rfl) (by kernel_rfl) (fun _ _ _ h => h) (by rfl) ?_
  (try simp only [Act.put, List.setIfInBounds_toArray, List.set_cons_zero, List.set_cons_succ])
  refine' RL.takeU (i := 18) rfl (by kernel_rfl) (by kernel_rfl) (by kernel_rfl) (fun _ _ _ h => h) (by rfl) ?_
  (try simp only [Act.put, List.setIfInBounds_toArray, List.set_cons_zero, List.set_cons_succ])
  refine' RL.takeU (i := 19) rfl (by kernel_rfl) (by kernel_rfl) (by kernel_rfl) (fun _ _ _ h => h) (by rfl) ?_
  (try simp only [Act.put, List.setIfInBounds_toArray, List.set_cons_zero, List.set_cons_succ])
  refine' RL.takeU (i := 20) rfl (by kernel_rfl) (by kernel_rfl) (by kernel_rfl) (fun _ _ _ h => h) (by rfl) ?_
  (try simp only [Act.put, List.setIfInBounds_toArray, List.set_cons_zero, List.set_cons_succ])
  refine' RL.takeU (i := 21) rfl (by kernel_rfl) (by kernel_rfl) (by kernel_rfl) (fun _ _ _ h => h) (by rfl) ?_
  (try simp only [Act.put, List.setIfInBounds_toArray, List.set_cons_zero, List.set_cons_succ])
  refine' RL.takeU (i := 22) rfl (by kernel_rfl) (by kernel_rfl) (by kernel_rfl) (fun _ _ _ h => h) (by rfl) ?_
  (try simp only [Act.put, List.setIfInBounds_toArray, List.set_cons_zero, List.set_cons_succ])
  refine' RL.takeU (i := 23) rfl (by kernel_rfl) (by kernel_rfl) (by kernel_rfl) (fun _ _ _ h => h) (by rfl) ?_
  (try simp only [Act.put, List.setIfInBounds_toArray, List.set_cons_zero, List.set_cons_succ])
  refine' RL.takeV (i := 24) (v := _) rfl (by kernel_rfl) (by kernel_rfl) (by kernel_rfl) (fun _ _ _ h => h) (by rfl) ?hp24 ?rp24
  case hp24 => (intro W hSW; go_simp; try with_reducible rfl)
  (try simp only [Act.put, List.setIfInBounds_toArray, List.set_cons_zero, List.set_cons_succ])
  refine' RL.takeV (i := 25) (v := _) rfl (by kernel_rfl) (by kernel_rfl) (by kernel_rfl) (fun _ _ _ h => h) (by rfl) ?hp25 ?rp25
  case hp25 => (intro W hSW; go_simp; try with_reducible rfl)
  (try simp only [Act.put, List.setIfInBounds_toArray, List.set_cons_zero, List.set_cons_succ])
  refine' RL.takeU (i := 26) rfl (by kernel_rfl) (by kernel_rfl) (by kernel_rfl) (fun _ _ _ h => h) (by rfl) ?_
  (try simp only [Act.put, List.setIfInBounds_toArray, List.set_cons_zero, List.set_cons_succ])
  refine' RL.takeU (i := 27) rfl (by kernel_rfl) (by kernel_rfl) (by kernel_rfl) (fun _ _ _ h => h) (by rfl) ?_
  (try simp only [Act.put, List.setIfInBounds_toArray, List.set_cons_zero, List.set_cons_succ])
  refine' RL.takeU (i := 28) rfl (by kernel_rfl) (by kernel_rfl) (by kernel_rfl) (fun _ _ _ h => h) (by rfl) ?_
  (try simp only [Act.put, List.setIfInBounds_toArray, List.set_cons_zero, List.set_cons_succ])
  refine' RL.takeU (i := 29) rfl (by kernel_rfl) (by kernel_rfl) (by kernel_rfl) (fun _ _ _ h => h) (by rfl) ?_
  (try simp only [Act.put, List.setIfInBounds_toArray, List.set_cons_zero, List.set_cons_succ])
  refine' RL.takeU (i := 30) rfl (by kernel_rfl) (by kernel_rfl) (by kernel_rfl) (fun _ _ _ h => h) (by rfl) ?_
  (try simp only [Act.put, List.setIfInBounds_toArray, List.set_cons_zero, List.set_cons_succ])
  refine' RL.takeU (i := 31) rfl (by kernel_rfl) (by kernel_rfl) (by kernel_rfl) (fun _ _ _ h => h) (by rfl) ?_
  (try simp only [Act.put, List.setIfInBounds_toArray, List.set_cons_zero, List.set_cons_succ])
  refine' RL.takeU (i := 32) rfl (by kernel_rfl) (by kernel_rfl) (by kernel_rfl) (fun _ _ _ h => h) (by rfl) ?_
  (try simp only [Act.put, List.setIfInBounds_toArray, List.set_cons_zero, List.set_cons_succ])
  refine' RL.takeV (i := 33) (v := _) rfl (by kernel_rfl) (by kernel_rfl) (by kernel_rfl) (fun _ _ _ h => h) (by rfl) ?hp33 ?rp33
  case hp33 => (intro W hSW; go_simp; try with_reducible rfl)
  (try simp only [Act.put, List.setIfInBounds_toArray, List.set_cons_zero, List.set_cons_succ])
  refine' RL.takeV (i := 34) (v := _) rfl (by kernel_rfl) (by kernel_rfl) (by kernel_rfl) (fun _ _ _ h => h) (by rfl) ?hp34 ?rp34
  case hp34 => (intro W hSW; go_simp; try with_reducible rfl)
  (try simp only [Act.put, List.setIfInBounds_toArray, List.set_cons_zero, List.set_cons_succ])
  refine RL.done (by kernel_rfl) (fun wd hlwd hswd => ?_)
  go_wp2_with fail
  go_ret
  exact ⟨rfl, HXW.out.trans (hswd.mono HXW.out.size)⟩
set_option maxRecDepth 20000 in
set_option maxHeartbeats 4000000 in
theorem counted_f1 (w : World) (kind : Int) (au aS an ab : Option Addr) (nu ns nn nb cu cs cn cb : Nat) (l : List UInt8) (hl : l.length ≤ 100)
    (h0 : nu = cntL l [117])
    (h1 : ¬ ns = cntL l [115, 99, 114])
    : Calls Tryz.prog 62 #[.agg (mC kind (.slice au nu cu) (.slice aS ns cs) (.slice an nn cn) (.slice ab nb cb)), .string (mkS l)] w fun e w' => e = .returned (.bool false) ∧ Below w.heap.size w w' := by
  have hmf : ∀ (fn : Fn) (first cap : Array Value) (w : World), (Instr.makeFunc fn first cap).run Tryz.prog w = .ok (.func fn first cap) w := fun _ _ _ _ => rfl
  have HL := Lib.hid hl
  subst h0
  obtain ⟨ls, hls⟩ : ∃ ls, mkS l = ls := ⟨_, rfl⟩
  rw [hls]
  have HLS := Lib.hid hls
  clear hl hls
  unfold mC
  go_enter Tryz.func62, Tryz.ntmps62
  go_wp2_with fail
  have hM : Rg.Blk ((w.alloc (.cells #[.int .i64 kind, .slice au (cntL l [117]) cu, .slice aS ns cs, .slice an nn cn, .slice ab nb cb] 47)).alloc (.cells #[.string ls] 9)) w.heap.size 47 #[.int .i64 kind, .slice au (cntL l [117]) cu, .slice aS ns cs, .slice an nn cn, .slice ab nb cb] := (Rg.Blk.new w _ _).alloc _
  have hL : Rg.Blk ((w.alloc (.cells #[.int .i64 kind, .slice au (cntL l [117]) cu, .slice aS ns cs, .slice an nn cn, .slice ab nb cb] 47)).alloc (.cells #[.string ls] 9)) (w.heap.size + 1) 9 #[.string ls] := Rg.Blk.newAt (by simp) _ _
  have hXW : Below w.heap.size w ((w.alloc (.cells #[.int .i64 kind, .slice au (cntL l [117]) cu, .slice aS ns cs, .slice an nn cn, .slice ab nb cb] 47)).alloc (.cells #[.string ls] 9)) := ((Below.refl _ _).alloc (Nat.le_refl _) _).alloc (by simp) _
  generalize ((w.alloc (.cells #[.int .i64 kind, .slice au (cntL l [117]) cu, .slice aS ns cs, .slice an nn cn, .slice ab nb cb] 47)).alloc (.cells #[.string ls] 9)) = X at *
  have HM := Lib.hid hM
  have HXW := Lib.hid hXW
  have HCF := Lib.hid (show ∀ (W : World) (b : Nat) (cs : List UInt8), cs.length ≤ 10 → RL.Aft X W → Rg.Blk W b 9 (cs.map oneV).toArray → Calls Tryz.prog 72 #[.slice (some ⟨b, 0, none⟩) cs.length cs.length, .pointer (some ⟨w.heap.size + 1, 0, none⟩)] W fun e w' => e = .returned (.int .i64 (cntL l cs : Nat)) ∧ W = w' from fun W b cs hcs hA hB => count_fun W _ _ _ _ l cs rfl hcs HL.out (by rw [HLS.out]; exact hL.below hA hL.lt) (rd_ones W b cs hB))
  clear hM hL hXW
  have e1 : ((ns : Int) == (cntL l [115, 99, 114] : Nat)) = false := by rw [beq_eq_false_iff_ne]; omega
  clear h1
  refine RL.start (RL.Aft X) (by kernel_rfl) (RL.Aft.drew (RL.Aft.refl X)) ?_
  refine' RL.takeV (i := 0) (v := _) rfl (by kernel_rfl) (by kernel_rfl) (by kernel_rfl) (fun _ _ _ h => h) (by rfl) ?hc0x0 ?rc0x0
  case hc0x0 => (intro W hSW; go_simp; try with_reducible rfl)
  (try simp only [Act.put, List.setIfInBounds_toArray, List.set_cons_zero, List.set_cons_succ])
  refine' RL.takeV (i := 1) (v := _) rfl (by kernel_rfl) (by kernel_rfl) (by kernel_rfl) (fun _ _ _ h => h) (by rfl) ?hc0x1 ?rc0x1
  case hc0x1 => (intro W hSW; have g := Blk.cellAft HM.out hSW 1 (v := .slice au (cntL l [117]) cu) rfl; go_simp; try with_reducible rfl)
  (try simp only [Act.put, List.setIfInBounds_toArray, List.set_cons_zero, List.set_cons_succ])
  refine' RL.takeV (i := 2) (v := _) rfl (by kernel_rfl) (by kernel_rfl) (by kernel_rfl) (fun _ _ _ h => h) (by rfl) ?hc0x2 ?rc0x2
  case hc0x2 => (intro W hSW; go_simp; try with_reducible rfl)
  (try simp only [Act.put, List.setIfInBounds_toArray, List.set_cons_zero, List.set_cons_succ])
  refine' RL.takeV (i := 3) (v := _) rfl (by kernel_rfl) (by kernel_rfl) (by kernel_rfl) (fun _ _ _ h => h) (by rfl) ?hc0x3 ?rc0x3
  case hc0x3 => (intro W hSW; go_simp; try with_reducible rfl)
  (try simp only [Act.put, List.setIfInBounds_toArray, List.set_cons_zero, List.set_cons_succ])
  refine RL.stepK (i := 4) rfl (by kernel_rfl) (by rfl) (fun wa0 hla0 hsa0 K hK => ?_)
  go_simp
  refine hK.out _ _ (RL.Aft.alloc hsa0 _) ?_
  clear hK
  (try simp only [Act.put, List.setIfInBounds_toArray, List.set_cons_zero, List.set_cons_succ])
  refine RL.stepK (i := 5) rfl (by kernel_rfl) (by rfl) (fun wb0 hlb0 hsb0 K hK => ?_)
  have hcf := HCF.out wb0 wa0.heap.size [117] (by decide) hsb0 (Rg.Blk.below (Rg.Blk.new wa0 _ _) hlb0 (by simp))
  simp only [List.length_cons, List.length_nil, Nat.reduceAdd] at hcf
  go_simp
  refine hcf.mono ?_
  rintro e w3 ⟨rfl, rfl⟩
  refine hK.out _ _ hsb0 ?_
  clear hK
  (try simp only [Act.put, List.setIfInBounds_toArray, List.set_cons_zero, List.set_cons_succ])
  refine' RL.takeV (i := 6) (v := _) rfl (by kernel_rfl) (by kernel_rfl) (by kernel_rfl) (fun _ _ _ h => h) (by rfl) ?hc0x6 ?rc0x6
  case hc0x6 => (intro W hSW; go_simp; try with_reducible rfl)
  (try simp only [Act.put, List.setIfInBounds_toArray, List.set_cons_zero, List.set_cons_succ])
  refine' RL.takeV (i := 7) (v := _) rfl (by kernel_rfl) (by kernel_rfl) (by kernel_rfl) (fun _ _ _ h => h) (by rfl) ?hp7 ?rp7
  case hp7 => (intro W hSW; go_simp; try with_reducible rfl)
  (try simp only [Act.put, List.setIfInBounds_toArray, List.set_cons_zero, List.set_cons_succ])
  refine' RL.takeV (i := 8) (v := _) rfl (by kernel_rfl) (by kernel_rfl) (by kernel_rfl) (fun _ _ _ h => h) (by rfl) ?hc1x8 ?rc1x8
  case hc1x8 => (intro W hSW; go_simp; try with_reducible rfl)
  (try simp only [Act.put, List.setIfInBounds_toArray, List.set_cons_zero, List.set_cons_succ])
  refine' RL.takeV (i := 9) (v := _) rfl (by kernel_rfl) (by kernel_rfl) (by kernel_rfl) (fun _ _ _ h => h) (by rfl) ?hc1x9 ?rc1x9
  case hc1x9 => (intro W hSW; have g := Blk.cellAft HM.out hSW 2 (v := .slice aS ns cs) rfl; go_simp; try with_reducible rfl)
  (try simp only [Act.put, List.setIfInBounds_toArray, List.set_cons_zero, List.set_cons_succ])
  refine' RL.takeV (i := 10) (v := _) rfl (by kernel_rfl) (by kernel_rfl) (by kernel_rfl) (fun _ _ _ h => h) (by rfl) ?hc1x10 ?rc1x10
  case hc1x10 => (intro W hSW; go_simp; try with_reducible rfl)
  (try simp only [Act.put, List.setIfInBounds_toArray, List.set_cons_zero, List.set_cons_succ])
  refine' RL.takeV (i := 11) (v := _) rfl (by kernel_rfl) (by kernel_rfl) (by kernel_rfl) (fun _ _ _ h => h) (by rfl) ?hc1x11 ?rc1x11
  case hc1x11 => (intro W hSW; go_simp; try with_reducible rfl)
  (try simp only [Act.put, List.setIfInBounds_toArray, List.set_cons_zero, List.set_cons_succ])
  refine RL.stepK (i := 12) rfl (by kernel_rfl) (by rfl) (fun wa1 hla1 hsa1 K hK => ?_)
  go_simp
  refine hK.out _ _ (RL.Aft.alloc hsa1 _) ?_
  clear hK
  (try simp only [Act.put, List.setIfInBounds_toArray, List.set_cons_zero, List.set_cons_succ])
  refine RL.stepK (i := 13) rfl (by kernel_rfl) (by rfl) (fun wb1 hlb1 hsb1 K hK => ?_)
  have hcf := HCF.out wb1 wa1.heap.size [115, 99, 114] (by decide) hsb1 (Rg.Blk.below (Rg.Blk.new wa1 _ _) hlb1 (by simp))
  simp only [List.length_cons, List.length_nil, Nat.reduceAdd] at hcf
  go_simp
  refine hcf.mono ?_
  rintro e w3 ⟨rfl, rfl⟩
  refine hK.out _ _ hsb1 ?_
  clear hK
  (try simp only [Act.put, List.setIfInBounds_toArray, List.set_cons_zero, List.set_cons_succ])
  refine' RL.takeV (i := 14) (v := _) rfl (by kernel_rfl) (by kernel_rfl) (by kernel_rfl) (fun _ _ _ h => h) (by rfl) ?hc1x14 ?rc1x14
  case hc1x14 => (intro W hSW; go_simp; try with_reducible rfl)
  (try simp only [Act.put, List.setIfInBounds_toArray, List.set_cons_zero, List.set_cons_succ])
  refine' RL.takeV (i := 15) (v := _) rfl (by kernel_rfl) (by kernel_rfl) (by kernel_rfl) (fun _ _ _ h => h) (by rfl) ?hp15 ?rp15
  case hp15 => (intro W hSW; go_simp; try with_reducible rfl)
  (try simp only [Act.put, List.setIfInBounds_toArray, List.set_cons_zero, List.set_cons_succ])
  refine' RL.takeV (i := 16) (v := _) rfl (by kernel_rfl) (by kernel_rfl) (by kernel_rfl) (fun _ _ _ h => h) (by rfl) ?hp16 ?rp16
  case hp16 => (intro W hSW; go_simp; try with_reducible rfl)
  (try simp only [Act.put, List.setIfInBounds_toArray, List.set_cons_zero, List.set_cons_succ])
  refine' RL.takeU (i := 17) rfl (by kernel_rfl) (by kernel_rfl) (by kernel_rfl) (fun _ _ _ h => h) (by rfl) ?_
  (try simp only [Act.put, List.setIfInBounds_toArray, List.set_cons_zero, List.set_cons_succ])
  refine' RL.takeU (i := 18) rfl (by kernel_rfl) (by kernel_rfl) (by kernel_rfl) (fun _ _ _ h => h) (by rfl) ?_
  (try simp only [Act.put, List.setIfInBounds_toArray, List.set_cons_zero, List.set_cons_succ])
  refine' RL.takeU (i := 19) rfl (by kernel_rfl) (by kernel_rfl) (by kernel_rfl) (fun _ _ _ h => h) (by rfl) ?_
  (try simp only [Act.put, List.setIfInBounds_toArray, List.set_cons_zero, List.set_cons_succ])
  refine' RL.takeU (i := 20) rfl (by kernel_rfl) (by kernel_rfl) (by kernel_rfl) (fun _ _ _ h => h) (by rfl) ?_
  (try simp only [Act.put, List.setIfInBounds_toArray, List.set_cons_zero, List.set_cons_succ])
  refine' RL.takeU (i := 21) rfl (by kernel_rfl) (by kernel_rfl) (by kernel_rfl) (fun _ _ _ h => h) (by rfl) ?_
  (try simp only [Act.put, List.setIfInBounds_toArray, List.set_cons_zero, List.set_cons_succ])
  refine' RL.takeU (i := 22) rfl (by kernel_rfl) (by kernel_rfl) (by kernel_rfl) (fun _ _ _ h => h) (by rfl) ?_
  (try simp only [Act.put, List.setIfInBounds_toArray, List.set_cons_zero, List.set_cons_succ])
  refine' RL.takeU (i := 23) rfl (by kernel_rfl) (by kernel_rfl) (by kernel_rfl) (fun _ _ _ h => h) (by rfl) ?_
  (try simp only [Act.put, List.setIfInBounds_toArray, List.set_cons_zero, List.set_cons_succ])
  refine' RL.takeV (i := 24) (v := _) rfl (by kernel_rfl) (by kernel_rfl) (by kernel_rfl) (fun _ _ _ h => h) (by rfl) ?hp24 ?rp24
  case hp24 => (intro W hSW; go_simp; try with_reducible rfl)
  (try simp only [Act.put, List.setIfInBounds_toArray, List.set_cons_zero, List.set_cons_succ])
  refine' RL.takeV (i := 25) (v := _) rfl (by kernel_rfl) (by kernel_rfl) (by kernel_rfl) (fun _ _ _ h => h) (by rfl) ?hp25 ?rp25
  case hp25 => (intro W hSW; go_simp; try with_reducible rfl)
  (try simp only [Act.put, List.setIfInBounds_toArray, List.set_cons_zero, List.set_cons_succ])
  refine' RL.takeU (i := 26) rfl (by kernel_rfl) (by kernel_rfl) (by kernel_rfl) (fun _ _ _ h => h) (by rfl) ?_
  (try simp only [Act.put, List.setIfInBounds_toArray, List.set_cons_zero, List.set_cons_succ])
  refine' RL.takeU (i := 27) rfl (by kernel_rfl) (by kernel_rfl) (by kernel_rfl) (fun _ _ _ h => h) (by rfl) ?_
  (try simp only [Act.put, List.setIfInBounds_toArray, List.set_cons_zero, List.set_cons_succ])
  refine' RL.takeU (i := 28) rfl (by kernel_rfl) (by kernel_rfl) (by kernel_rfl) (fun _ _ _ h => h) (by rfl) ?_
  (try simp only [Act.put, List.setIfInBounds_toArray, List.set_cons_zero, List.set_cons_succ])
  refine' RL.takeU (i := 29) rfl (by kernel_rfl) (by kernel_rfl) (by kernel_rfl) (fun _ _ _ h => h) (by rfl) ?_
  (try simp only [Act.put, List.setIfInBounds_toArray, List.set_cons_zero, List.set_cons_succ])
  refine' RL.takeU (i := 30) rfl (by kernel_rfl) (by kernel_rfl) (by kernel_rfl) (fun _ _ _ h => h) (by rfl) ?_
  (try simp only [Act.put, List.setIfInBounds_toArray, List.set_cons_zero, List.set_cons_succ])
  refine' RL.takeU (i := 31) rfl (by kernel_rfl) (by kernel_rfl) (by kernel_rfl) (fun _ _ _ h => h) (by rfl) ?_
  (try simp only [Act.put, List.setIfInBounds_toArray, List.set_cons_zero, List.set_cons_succ])
  refine' RL.takeU (i := 32) rfl (by kernel_rfl) (by kernel_rfl) (by kernel_rfl) (fun _ _ _ h => h) (by rfl) ?_
  (try simp only [Act.put, List.setIfInBounds_toArray, List.set_cons_zero, List.set_cons_succ])
  refine' RL.takeV (i := 33) (v := _) rfl (by kernel_rfl) (by kernel_rfl) (by kernel_rfl) (fun _ _ _ h => h) (by rfl) ?hp33 ?rp33
  case hp33 => (intro W hSW; go_simp; try with_reducible rfl)
  (try simp only [Act.put, List.setIfInBounds_toArray, List.set_cons_zero, List.set_cons_succ])
  refine' RL.takeV (i := 34) (v := _) rfl (by kernel_rfl) (by kernel_rfl) (by kernel_rfl) (fun _ _ _ h => h) (by rfl) ?hp34 ?rp34
  case hp34 => (intro W hSW; go_simp; try with_reducible rfl)
  (try simp only [Act.put, List.setIfInBounds_toArray, List.set_cons_zero, List.set_cons_succ])
  refine RL.done (by kernel_rfl) (fun wd hlwd hswd => ?_)
  go_wp2_with fail
  go_ret
  exact ⟨rfl, HXW.out.trans (hswd.mono HXW.out.size)⟩
set_option maxRecDepth 20000 in
set_option maxHeartbeats 4000000 in
theorem counted_f2 (w : World) (kind : Int) (au aS an ab : Option Addr) (nu ns nn nb cu cs cn cb : Nat) (l : List UInt8) (hl : l.length ≤ 100)
    (h0 : nu = cntL l [117])
    (h1 : ns = cntL l [115, 99, 114])
    (h2 : ¬ nn = cntL l [110])
    : Calls Tryz.prog 62 #[.agg (mC kind (.slice au nu cu) (.slice aS ns cs) (.slice an nn cn) (.slice ab nb cb)), .string (mkS l)] w fun e w' => e = .returned (.bool false) ∧ Below w.heap.size w w' := by
  have hmf : ∀ (fn : Fn) (first cap : Array Value) (w : World), (Instr.makeFunc fn first cap).run Tryz.prog w = .ok (.func fn first cap) w := fun _ _ _ _ => rfl
  have HL := Lib.hid hl
  subst h0
  subst h1
  obtain ⟨ls, hls⟩ : ∃ ls, mkS l = ls := ⟨_, rfl⟩
  rw [hls]
  have HLS := Lib.hid hls
  clear hl hls
  unfold mC
  go_enter Tryz.func62, Tryz.ntmps62
  go_wp2_with fail
  have hM : Rg.Blk ((w.alloc (.cells #[.int .i64 kind, .slice au (cntL l [117]) cu, .slice aS (cntL l [115, 99, 114]) cs, .slice an nn cn, .slice ab nb cb] 47)).alloc (.cells #[.string ls] 9)) w.heap.size 47 #[.int .i64 kind, .slice au (cntL l [117]) cu, .slice aS (cntL l [115, 99, 114]) cs, .slice an nn cn, .slice ab nb cb] := (Rg.Blk.new w _ _).alloc _
  have hL : Rg.Blk ((w.alloc (.cells #[.int .i64 kind, .slice au (cntL l [117]) cu, .slice aS (cntL l [115, 99, 114]) cs, .slice an nn cn, .slice ab nb cb] 47)).alloc (.cells #[.string ls] 9)) (w.heap.size + 1) 9 #[.string ls] := Rg.Blk.newAt (by simp) _ _
  have hXW : Below w.heap.size w ((w.alloc (.cells #[.int .i64 kind, .slice au (cntL l [117]) cu, .slice aS (cntL l [115, 99, 114]) cs, .slice an nn cn, .slice ab nb cb] 47)).alloc (.cells #[.string ls] 9)) := ((Below.refl _ _).alloc (Nat.le_refl _) _).alloc (by simp) _
  generalize ((w.alloc (.cells #[.int .i64 kind, .slice au (cntL l [117]) cu, .slice aS (cntL l [115, 99, 114]) cs, .slice an nn cn, .slice ab nb cb] 47)).alloc (.cells #[.string ls] 9)) = X at *
  have HM := Lib.hid hM
  have HXW := Lib.hid hXW
  have HCF := Lib.hid (show ∀ (W : World) (b : Nat) (cs : List UInt8), cs.length ≤ 10 → RL.Aft X W → Rg.Blk W b 9 (cs.map oneV).toArray → Calls Tryz.prog 72 #[.slice (some ⟨b, 0, none⟩) cs.length cs.length, .pointer (some ⟨w.heap.size + 1, 0, none⟩)] W fun e w' => e = .returned (.int .i64 (cntL l cs : Nat)) ∧ W = w' from fun W b cs hcs hA hB => count_fun W _ _ _ _ l cs rfl hcs HL.out (by rw [HLS.out]; exact hL.below hA hL.lt) (rd_ones W b cs hB))
  clear hM hL hXW
  have e2 : ((nn : Int) == (cntL l [110] : Nat)) = false := by rw [beq_eq_false_iff_ne]; omega
  clear h2
  refine RL.start (RL.Aft X) (by kernel_rfl) (RL.Aft.drew (RL.Aft.refl X)) ?_
  refine' RL.takeV (i := 0) (v := _) rfl (by kernel_rfl) (by kernel_rfl) (by kernel_rfl) (fun _ _ _ h => h) (by rfl) ?hc0x0 ?rc0x0
  case hc0x0 => (intro W hSW; go_simp; try with_reducible rfl)
  (try simp only [Act.put, List.setIfInBounds_toArray, List.set_cons_zero, List.set_cons_succ])
  refine' RL.takeV (i := 1) (v := _) rfl (by kernel_rfl) (by kernel_rfl) (by kernel_rfl) (fun _ _ _ h => h) (by rfl) ?hc0x1 ?rc0x1
  case hc0x1 => (intro W hSW; have g := Blk.cellAft HM.out hSW 1 (v := .slice au (cntL l [117]) cu) rfl; go_simp; try with_reducible rfl)
  (try simp only [Act.put, List.setIfInBounds_toArray, List.set_cons_zero, List.set_cons_succ])
  refine' RL.takeV (i := 2) (v := _) rfl (by kernel_rfl) (by kernel_rfl) (by kernel_rfl) (fun _ _ _ h => h) (by rfl) ?hc0x2 ?rc0x2
  case hc0x2 => (intro W hSW; go_simp; try with_reducible rfl)
  (try simp only [Act.put, List.setIfInBounds_toArray, List.set_cons_zero, List.set_cons_succ])
  refine' RL.takeV (i := 3) (v := _) rfl (by kernel_rfl) (by kernel_rfl) (by kernel_rfl) (fun _ _ _ h => h) (by rfl) ?hc0x3 ?rc0x3
  case hc0x3 => (intro W hSW; go_simp; try with_reducible rfl)
  (try simp only [Act.put, List.setIfInBounds_toArray, List.set_cons_zero, List.set_cons_succ])
  refine RL.stepK (i := 4) rfl (by kernel_rfl) (by rfl) (fun wa0 hla0 hsa0 K hK => ?_)
  go_simp
  refine hK.out _ _ (RL.Aft.alloc hsa0 _) ?_
  clear hK
  (try simp only [Act.put, List.setIfInBounds_toArray, List.set_cons_zero, List.set_cons_succ])
  refine RL.stepK (i := 5) rfl (by kernel_rfl) (by rfl) (fun wb0 hlb0 hsb0 K hK => ?_)
  have hcf := HCF.out wb0 wa0.heap.size [117] (by decide) hsb0 (Rg.Blk.below (Rg.Blk.new wa0 _ _) hlb0 (by simp))
  simp only [List.length_cons, List.length_nil, Nat.reduceAdd] at hcf
  go_simp
  refine hcf.mono ?_
  rintro e w3 ⟨rfl, rfl⟩
  refine hK.out _ _ hsb0 ?_
  clear hK
  (try simp only [Act.put, List.setIfInBounds_toArray, List.set_cons_zero, List.set_cons_succ])
  refine' RL.takeV (i := 6) (v := _) rfl (by kernel_rfl) (by kernel_rfl) (by kernel_rfl) (fun _ _ _ h => h) (by rfl) ?hc0x6 ?rc0x6
  case hc0x6 => (intro W hSW; go_simp; try with_reducible rfl)
  (try simp only [Act.put, List.setIfInBounds_toArray, List.set_cons_zero, List.set_cons_succ])
  refine' RL.takeV (i := 7) (v := _) rfl (by kernel_rfl) (by kernel_rfl) (by kernel_rfl) (fun _ _ _ h => h) (by rfl) ?hp7 ?rp7
  case hp7 => (intro W hSW; go_simp; try with_reducible rfl)
  (try simp only [Act.put, List.setIfInBounds_toArray, List.set_cons_zero, List.set_cons_succ])
  refine' RL.takeV (i := 8) (v := _) rfl (by kernel_rfl) (by kernel_rfl) (by kernel_rfl) (fun _ _ _ h => h) (by rfl) ?hc1x8 ?rc1x8
  case hc1x8 => (intro W hSW; go_simp; try with_reducible rfl)
  (try simp only [Act.put, List.setIfInBounds_toArray, List.set_cons_zero, List.set_cons_succ])
  refine' RL.takeV (i := 9) (v := _) rfl (by kernel_rfl) (by kernel_rfl) (by kernel_rfl) (fun _ _ _ h => h) (by rfl) ?hc1x9 ?rc1x9
  case hc1x9 => (intro W hSW; have g := Blk.cellAft HM.out hSW 2 (v := .slice aS (cntL l [115, 99, 114]) cs) rfl; go_simp; try with_reducible rfl)
  (try simp only [Act.put, List.setIfInBounds_toArray, List.set_cons_zero, List.set_cons_succ])
  refine' RL.takeV (i := 10) (v := _) rfl (by kernel_rfl) (by kernel_rfl) (by kernel_rfl) (fun _ _ _ h => h) (by rfl) ?hc1x10 ?rc1x10
  case hc1x10 => (intro W hSW; go_simp; try with_reducible rfl)
  (try simp only [Act.put, List.setIfInBounds_toArray, List.set_cons_zero, List.set_cons_succ])
  refine' RL.takeV (i := 11) (v := _) rfl (by kernel_rfl) (by kernel_rfl) (by kernel_rfl) (fun _ _ _ h => h) (by rfl) ?hc1x11 ?rc1x11
  case hc1x11 => (intro W hSW; go_simp; try with_reducible rfl)
  (try simp only [Act.put, List.setIfInBounds_toArray, List.set_cons_zero, List.set_cons_succ])
  refine RL.stepK (i := 12) rfl (by kernel_rfl) (by rfl) (fun wa1 hla1 hsa1 K hK => ?_)
  go_simp
  refine hK.out _ _ (RL.Aft.alloc hsa1 _) ?_
  clear hK
  (try simp only [Act.put, List.setIfInBounds_toArray, List.set_cons_zero, List.set_cons_succ])
  refine RL.stepK (i := 13) rfl (by kernel_rfl) (by rfl) (fun wb1 hlb1 hsb1 K hK => ?_)
  have hcf := HCF.out wb1 wa1.heap.size [115, 99, 114] (by decide) hsb1 (Rg.Blk.below (Rg.Blk.new wa1 _ _) hlb1 (by simp))
  simp only [List.length_cons, List.length_nil, Nat.reduceAdd] at hcf
  go_simp
  refine hcf.mono ?_
  rintro e w3 ⟨rfl, rfl⟩
  refine hK.out _ _ hsb1 ?_
  clear hK
  (try simp only [Act.put, List.setIfInBounds_toArray, List.set_cons_zero, List.set_cons_succ])
  refine' RL.takeV (i := 14) (v := _) rfl (by kernel_rfl) (by kernel_rfl) (by kernel_rfl) (fun _ _ _ h => h) (by rfl) ?hc1x14 ?rc1x14
  case hc1x14 => (intro W hSW; go_simp; try with_reducible rfl)
  (try simp only [Act.put, List.setIfInBounds_toArray, List.set_cons_zero, List.set_cons_succ])
  refine' RL.takeV (i := 15) (v := _) rfl (by kernel_rfl) (by kernel_rfl) (by kernel_rfl) (fun _ _ _ h => h) (by rfl) ?hp15 ?rp15
  case hp15 => (intro W hSW; go_simp; try with_reducible rfl)
  (try simp only [Act.put, List.setIfInBounds_toArray, List.set_cons_zero, List.set_cons_succ])
  refine' RL.takeV (i := 16) (v := _) rfl (by kernel_rfl) (by kernel_rfl) (by kernel_rfl) (fun _ _ _ h => h) (by rfl) ?hp16 ?rp16
  case hp16 => (intro W hSW; go_simp; try with_reducible rfl)
  (try simp only [Act.put, List.setIfInBounds_toArray, List.set_cons_zero, List.set_cons_succ])
  refine' RL.takeV (i := 17) (v := _) rfl (by kernel_rfl) (by kernel_rfl) (by kernel_rfl) (fun _ _ _ h => h) (by rfl) ?hc2x17 ?rc2x17
  case hc2x17 => (intro W hSW; go_simp; try with_reducible rfl)
  (try simp only [Act.put, List.setIfInBounds_toArray, List.set_cons_zero, List.set_cons_succ])
  refine' RL.takeV (i := 18) (v := _) rfl (by kernel_rfl) (by kernel_rfl) (by kernel_rfl) (fun _ _ _ h => h) (by rfl) ?hc2x18 ?rc2x18
  case hc2x18 => (intro W hSW; have g := Blk.cellAft HM.out hSW 3 (v := .slice an nn cn) rfl; go_simp; try with_reducible rfl)
  (try simp only [Act.put, List.setIfInBounds_toArray, List.set_cons_zero, List.set_cons_succ])
  refine' RL.takeV (i := 19) (v := _) rfl (by kernel_rfl) (by kernel_rfl) (by kernel_rfl) (fun _ _ _ h => h) (by rfl) ?hc2x19 ?rc2x19
  case hc2x19 => (intro W hSW; go_simp; try with_reducible rfl)
  (try simp only [Act.put, List.setIfInBounds_toArray, List.set_cons_zero, List.set_cons_succ])
  refine' RL.takeV (i := 20) (v := _) rfl (by kernel_rfl) (by kernel_rfl) (by kernel_rfl) (fun _ _ _ h => h) (by rfl) ?hc2x20 ?rc2x20
  case hc2x20 => (intro W hSW; go_simp; try with_reducible rfl)
  (try simp only [Act.put, List.setIfInBounds_toArray, List.set_cons_zero, List.set_cons_succ])
  refine RL.stepK (i := 21) rfl (by kernel_rfl) (by rfl) (fun wa2 hla2 hsa2 K hK => ?_)
  go_simp
  refine hK.out _ _ (RL.Aft.alloc hsa2 _) ?_
  clear hK
  (try simp only [Act.put, List.setIfInBounds_toArray, List.set_cons_zero, List.set_cons_succ])
  refine RL.stepK (i := 22) rfl (by kernel_rfl) (by rfl) (fun wb2 hlb2 hsb2 K hK => ?_)
  have hcf := HCF.out wb2 wa2.heap.size [110] (by decide) hsb2 (Rg.Blk.below (Rg.Blk.new wa2 _ _) hlb2 (by simp))
  simp only [List.length_cons, List.length_nil, Nat.reduceAdd] at hcf
  go_simp
  refine hcf.mono ?_
  rintro e w3 ⟨rfl, rfl⟩
  refine hK.out _ _ hsb2 ?_
  clear hK
  (try simp only [Act.put, List.setIfInBounds_toArray, List.set_cons_zero, List.set_cons_succ])
  refine' RL.takeV (i := 23) (v := _) rfl (by kernel_rfl) (by kernel_rfl) (by kernel_rfl) (fun _ _ _ h => h) (by rfl) ?hc2x23 ?rc2x23
  case hc2x23 => (intro W hSW; go_simp; try with_reducible rfl)
  (try simp only [Act.put, List.setIfInBounds_toArray, List.set_cons_zero, List.set_cons_succ])
  refine' RL.takeV (i := 24) (v := _) rfl (by kernel_rfl) (by kernel_rfl) (by kernel_rfl) (fun _ _ _ h => h) (by rfl) ?hp24 ?rp24
  case hp24 => (intro W hSW; go_simp; try with_reducible rfl)
  (try simp only [Act.put, List.setIfInBounds_toArray, List.set_cons_zero, List.set_cons_succ])
  refine' RL.takeV (i := 25) (v := _) rfl (by kernel_rfl) (by kernel_rfl) (by kernel_rfl) (fun _ _ _ h => h) (by rfl) ?hp25 ?rp25
  case hp25 => (intro W hSW; go_simp; try with_reducible rfl)
  (try simp only [Act.put, List.setIfInBounds_toArray, List.set_cons_zero, List.set_cons_succ])
  refine' RL.takeU (i := 26) rfl (by kernel_rfl) (by kernel_rfl) (by kernel_rfl) (fun _ _ _ h => h) (by rfl) ?_
  (try simp only [Act.put, List.setIfInBounds_toArray, List.set_cons_zero, List.set_cons_succ])
  refine' RL.takeU (i := 27) rfl (by kernel_rfl) (by kernel_rfl) (by kernel_rfl) (fun _ _ _ h => h) (by rfl) ?_
  (try simp only [Act.put, List.setIfInBounds_toArray, List.set_cons_zero, List.set_cons_succ])
  refine' RL.takeU (i := 28) rfl (by kernel_rfl) (by kernel_rfl) (by kernel_rfl) (fun _ _ _ h => h) (by rfl) ?_
  (try simp only [Act.put, List.setIfInBounds_toArray, List.set_cons_zero, List.set_cons_succ])
  refine' RL.takeU (i := 29) rfl (by kernel_rfl) (by kernel_rfl) (by kernel_rfl) (fun _ _ _ h => h) (by rfl) ?_
  (try simp only [Act.put, List.setIfInBounds_toArray, List.set_cons_zero, List.set_cons_succ])
  refine' RL.takeU (i := 30) rfl (by kernel_rfl) (by kernel_rfl) (by kernel_rfl) (fun _ _ _ h => h) (by rfl) ?_
  (try simp only [Act.put, List.setIfInBounds_toArray, List.set_cons_zero, List.set_cons_succ])
  refine' RL.takeU (i := 31) rfl (by kernel_rfl) (by kernel_rfl) (by kernel_rfl) (fun _ _ _ h => h) (by rfl) ?_
  (try simp only [Act.put, List.setIfInBounds_toArray, List.set_cons_zero, List.set_cons_succ])
  refine' RL.takeU (i := 32) rfl (by kernel_rfl) (by kernel_rfl) (by kernel_rfl) (fun _ _ _ h => h) (by rfl) ?_
  (try simp only [Act.put, List.setIfInBounds_toArray, List.set_cons_zero, List.set_cons_succ])
  refine' RL.takeV (i := 33) (v := _) rfl (by kernel_rfl) (by kernel_rfl) (by kernel_rfl) (fun _ _ _ h => h) (by rfl) ?hp33 ?rp33
  case hp33 => (intro W hSW; go_simp; try with_reducible rfl)
  (try simp only [Act.put, List.setIfInBounds_toArray, List.set_cons_zero, List.set_cons_succ])
  refine' RL.takeV (i := 34) (v := _) rfl (by kernel_rfl) (by kernel_rfl) (by kernel_rfl) (fun _ _ _ h => h) (by rfl) ?hp34 ?rp34
  case hp34 => (intro W hSW; go_simp; try with_reducible rfl)
  (try simp only [Act.put, List.setIfInBounds_toArray, List.set_cons_zero, List.set_cons_succ])
  refine RL.done (by kernel_rfl) (fun wd hlwd hswd => ?_)
  go_wp2_with fail
  go_ret
  exact ⟨rfl, HXW.out.trans (hswd.mono HXW.out.size)⟩
set_option maxRecDepth 20000 in
set_option maxHeartbeats 4000000 in
theorem counted_f3 (w : World) (kind : Int) (au aS an ab : Option Addr) (nu ns nn nb cu cs cn cb : Nat) (l : List UInt8) (hl : l.length ≤ 100)
    (h0 : nu = cntL l [117])
    (h1 : ns = cntL l [115, 99, 114])
    (h2 : nn = cntL l [110])
    (h3 : ¬ nb = cntL l [98])
    : Calls Tryz.prog 62 #[.agg (mC kind (.slice au nu cu) (.slice aS ns cs) (.slice an nn cn) (.slice ab nb cb)), .string (mkS l)] w fun e w' => e = .returned (.bool false) ∧ Below w.heap.size w w' := by
  have hmf : ∀ (fn : Fn) (first cap : Array Value) (w : World), (Instr.makeFunc fn first cap).run Tryz.prog w = .ok (.func fn first cap) w := fun _ _ _ _ => rfl
  have HL := Lib.hid hl
  subst h0
  subst h1
  subst h2
  obtain ⟨ls, hls⟩ : ∃ ls, mkS l = ls := ⟨_, rfl⟩
  rw [hls]
  have HLS := Lib.hid hls
  clear hl hls
  unfold mC
  go_enter Tryz.func62, Tryz.ntmps62
  go_wp2_with fail
  have hM : Rg.Blk ((w.alloc (.cells #[.int .i64 kind, .slice au (cntL l [117]) cu, .slice aS (cntL l [115, 99, 114]) cs, .slice an (cntL l [110]) cn, .slice ab nb cb] 47)).alloc (.cells #[.string ls] 9)) w.heap.size 47 #[.int .i64 kind, .slice au (cntL l [117]) cu, .slice aS (cntL l [115, 99, 114]) cs, .slice an (cntL l [110]) cn, .slice ab nb cb] := (Rg.Blk.new w _ _).alloc _
  have hL : Rg.Blk ((w.alloc (.cells #[.int .i64 kind, .slice au (cntL l [117]) cu, .slice aS (cntL l [115, 99, 114]) cs, .slice an (cntL l [110]) cn, .slice ab nb cb] 47)).alloc (.cells #[.string ls] 9)) (w.heap.size + 1) 9 #[.string ls] := Rg.Blk.newAt (by simp) _ _
  have hXW : Below w.heap.size w ((w.alloc (.cells #[.int .i64 kind, .slice au (cntL l [117]) cu, .slice aS (cntL l [115, 99, 114]) cs, .slice an (cntL l [110]) cn, .slice ab nb cb] 47)).alloc (.cells #[.string ls] 9)) := ((Below.refl _ _).alloc (Nat.le_refl _) _).alloc (by simp) _
  generalize ((w.alloc (.cells #[.int .i64 kind, .slice au (cntL l [117]) cu, .slice aS (cntL l [115, 99, 114]) cs, .slice an (cntL l [110]) cn, .slice ab nb cb] 47)).alloc (.cells #[.string ls] 9)) = X at *
  have HM := Lib.hid hM
  have HXW := Lib.hid hXW
  have HCF := Lib.hid (show ∀ (W : World) (b : Nat) (cs : List UInt8), cs.length ≤ 10 → RL.Aft X W → Rg.Blk W b 9 (cs.map oneV).toArray → Calls Tryz.prog 72 #[.slice (some ⟨b, 0, none⟩) cs.length cs.length, .pointer (some ⟨w.heap.size + 1, 0, none⟩)] W fun e w' => e = .returned (.int .i64 (cntL l cs : Nat)) ∧ W = w' from fun W b cs hcs hA hB => count_fun W _ _ _ _ l cs rfl hcs HL.out (by rw [HLS.out]; exact hL.below hA hL.lt) (rd_ones W b cs hB))
  clear hM hL hXW
  have e3 : ((nb : Int) == (cntL l [98] : Nat)) = false := by rw [beq_eq_false_iff_ne]; omega
  clear h3
  refine RL.start (RL.Aft X) (by kernel_rfl) (RL.Aft.drew (RL.Aft.refl X)) ?_
  refine' RL.takeV (i := 0) (v := _) rfl (by kernel_rfl) (by kernel_rfl) (by kernel_rfl) (fun _ _ _ h => h) (by rfl) ?hc0x0 ?rc0x0
  case hc0x0 => (intro W hSW; go_simp; try with_reducible rfl)
  (try simp only [Act.put, List.setIfInBounds_toArray, List.set_cons_zero, List.set_cons_succ])
  refine' RL.takeV (i := 1) (v := _) rfl (by kernel_rfl) (by kernel_rfl) (by kernel_rfl) (fun _ _ _ h => h) (by rfl) ?hc0x1 ?rc0x1
  case hc0x1 => (intro W hSW; have g := Blk.cellAft HM.out hSW 1 (v := .slice au (cntL l [117]) cu) rfl; go_simp; try with_reducible rfl)
  (try simp only [Act.put, List.setIfInBounds_toArray, List.set_cons_zero, List.set_cons_succ])
  refine' RL.takeV (i := 2) (v := _) rfl (by kernel_rfl) (by kernel_rfl) (by kernel_rfl) (fun _ _ _ h => h) (by rfl) ?hc0x2 ?rc0x2
  case hc0x2 => (intro W hSW; go_simp; try with_reducible rfl)
  (try simp only [Act.put, List.setIfInBounds_toArray, List.set_cons_zero, List.set_cons_succ])
  refine' RL.takeV (i := 3) (v := _) rfl (by kernel_rfl) (by kernel_rfl) (by kernel_rfl) (fun _ _ _ h => h) (by rfl) ?hc0x3 ?rc0x3
  case hc0x3 => (intro W hSW; go_simp; try with_reducible rfl)
  (try simp only [Act.put, List.setIfInBounds_toArray, List.set_cons_zero, List.set_cons_succ])
  refine RL.stepK (i := 4) rfl (by kernel_rfl) (by rfl) (fun wa0 hla0 hsa0 K hK => ?_)
  go_simp
  refine hK.out _ _ (RL.Aft.alloc hsa0 _) ?_
  clear hK
  (try simp only [Act.put, List.setIfInBounds_toArray, List.set_cons_zero, List.set_cons_succ])
  refine RL.stepK (i := 5) rfl (by kernel_rfl) (by rfl) (fun wb0 hlb0 hsb0 K hK => ?_)
  have hcf := HCF.out wb0 wa0.heap.size [117] (by decide) hsb0 (Rg.Blk.below (Rg.Blk.new wa0 _ _) hlb0 (by simp))
  simp only [List.length_cons, List.length_nil, Nat.reduceAdd] at hcf
  go_simp
  refine hcf.mono ?_
  rintro e w3 ⟨rfl, rfl⟩
  refine hK.out _ _ hsb0 ?_
  clear hK
  (try simp only [Act.put, List.setIfInBounds_toArray, List.set_cons_zero, List.set_cons_succ])
  refine' RL.takeV (i := 6) (v := _) rfl (by kernel_rfl) (by kernel_rfl) (by kernel_rfl) (fun _ _ _ h => h) (by rfl) ?hc0x6 ?rc0x6
  case hc0x6 => (intro W hSW; go_simp; try with_reducible rfl)
  (try simp only [Act.put, List.setIfInBounds_toArray, List.set_cons_zero, List.set_cons_succ])
  refine' RL.takeV (i := 7) (v := _) rfl (by kernel_rfl) (by kernel_rfl) (by kernel_rfl) (fun _ _ _ h => h) (by rfl) ?hp7 ?rp7
  case hp7 => (intro W hSW; go_simp; try with_reducible rfl)
  (try simp only [Act.put, List.setIfInBounds_toArray, List.set_cons_zero, List.set_cons_succ])
  refine' RL.takeV (i := 8) (v := _) rfl (by kernel_rfl) (by kernel_rfl) (by kernel_rfl) (fun _ _ _ h => h) (by rfl) ?hc1x8 ?rc1x8
  case hc1x8 => (intro W hSW; go_simp; try with_reducible rfl)
  (try simp only [Act.put, List.setIfInBounds_toArray, List.set_cons_zero, List.set_cons_succ])
  refine' RL.takeV (i := 9) (v := _) rfl (by kernel_rfl) (by kernel_rfl) (by kernel_rfl) (fun _ _ _ h => h) (by rfl) ?hc1x9 ?rc1x9
  case hc1x9 => (intro W hSW; have g := Blk.cellAft HM.out hSW 2 (v := .slice aS (cntL l [115, 99, 114]) cs) rfl; go_simp; try with_reducible rfl)
  (try simp only [Act.put, List.setIfInBounds_toArray, List.set_cons_zero, List.set_cons_succ])
  refine' RL.takeV (i := 10) (v := _) rfl (by kernel_rfl) (by kernel_rfl) (by kernel_rfl) (fun _ _ _ h => h) (by rfl) ?hc1x10 ?rc1x10
  case hc1x10 => (intro W hSW; go_simp; try with_reducible rfl)
  (try simp only [Act.put, List.setIfInBounds_toArray, List.set_cons_zero, List.set_cons_succ])
  refine' RL.takeV (i := 11) (v := _) rfl (by kernel_rfl) (by kernel_rfl) (by kernel_rfl) (fun _ _ _ h => h) (by rfl) ?hc1x11 ?rc1x11
  case hc1x11 => (intro W hSW; go_simp; try with_reducible rfl)
  (try simp only [Act.put, List.setIfInBounds_toArray, List.set_cons_zero, List.set_cons_succ])
  refine RL.stepK (i := 12) rfl (by kernel_rfl) (by rfl) (fun wa1 hla1 hsa1 K hK => ?_)
  go_simp
  refine hK.out _ _ (RL.Aft.alloc hsa1 _) ?_
  clear hK
  (try simp only [Act.put, List.setIfInBounds_toArray, List.set_cons_zero, List.set_cons_succ])
  refine RL.stepK (i := 13) rfl (by kernel_rfl) (by rfl) (fun wb1 hlb1 hsb1 K hK => ?_)
  have hcf := HCF.out wb1 wa1.heap.size [115, 99, 114] (by decide) hsb1 (Rg.Blk.below (Rg.Blk.new wa1 _ _) hlb1 (by simp))
  simp only [List.length_cons, List.length_nil, Nat.reduceAdd] at hcf
  go_simp
  refine hcf.mono ?_
  rintro e w3 ⟨rfl, rfl⟩
  refine hK.out _ _ hsb1 ?_
  clear hK
  (try simp only [Act.put, List.setIfInBounds_toArray, List.set_cons_zero, List.set_cons_succ])
  refine' RL.takeV (i := 14) (v := _) rfl (by kernel_rfl) (by kernel_rfl) (by kernel_rfl) (fun _ _ _ h => h) (by rfl) ?hc1x14 ?rc1x14
  case hc1x14 => (intro W hSW; go_simp; try with_reducible rfl)
  (try simp only [Act.put, List.setIfInBounds_toArray, List.set_cons_zero, List.set_cons_succ])
  refine' RL.takeV (i := 15) (v := _) rfl (by kernel_rfl) (by kernel_rfl) (by kernel_rfl) (fun _ _ _ h => h) (by rfl) ?hp15 ?rp15
  case hp15 => (intro W hSW; go_simp; try with_reducible rfl)
  (try simp only [Act.put, List.setIfInBounds_toArray, List.set_cons_zero, List.set_cons_succ])
  refine' RL.takeV (i := 16) (v := _) rfl (by kernel_rfl) (by kernel_rfl) (by kernel_rfl) (fun _ _ _ h => h) (by rfl) ?hp16 ?rp16
  case hp16 => (intro W hSW; go_simp; try with_reducible rfl)
  (try simp only [Act.put, List.setIfInBounds_toArray, List.set_cons_zero, List.set_cons_succ])
  refine' RL.takeV (i := 17) (v := _) rfl (by kernel_rfl) (by kernel_rfl) (by kernel_rfl) (fun _ _ _ h => h) (by rfl) ?hc2x17 ?rc2x17
  case hc2x17 => (intro W hSW; go_simp; try with_reducible rfl)
  (try simp only [Act.put, List.setIfInBounds_toArray, List.set_cons_zero, List.set_cons_succ])
  refine' RL.takeV (i := 18) (v := _) rfl (by kernel_rfl) (by kernel_rfl) (by kernel_rfl) (fun _ _ _ h => h) (by rfl) ?hc2x18 ?rc2x18
  case hc2x18 => (intro W hSW; have g := Blk.cellAft HM.out hSW 3 (v := .slice an (cntL l [110]) cn) rfl; go_simp; try with_reducible rfl)
  (try simp only [Act.put, List.setIfInBounds_toArray, List.set_cons_zero, List.set_cons_succ])
  refine' RL.takeV (i := 19) (v := _) rfl (by kernel_rfl) (by kernel_rfl) (by kernel_rfl) (fun _ _ _ h => h) (by rfl) ?hc2x19 ?rc2x19
  case hc2x19 => (intro W hSW; go_simp; try with_reducible rfl)
  (try simp only [Act.put, List.setIfInBounds_toArray, List.set_cons_zero, List.set_cons_succ])
  refine' RL.takeV (i := 20) (v := _) rfl (by kernel_rfl) (by kernel_rfl) (by kernel_rfl) (fun _ _ _ h => h) (by rfl) ?hc2x20 ?rc2x20
  case hc2x20 => (intro W hSW; go_simp; try with_reducible rfl)
  (try simp only [Act.put, List.setIfInBounds_toArray, List.set_cons_zero, List.set_cons_succ])
  refine RL.stepK (i := 21) rfl (by kernel_rfl) (by rfl) (fun wa2 hla2 hsa2 K hK => ?_)
  go_simp
  refine hK.out _ _ (RL.Aft.alloc hsa2 _) ?_
  clear hK
  (try simp only [Act.put, List.setIfInBounds_toArray, List.set_cons_zero, List.set_cons_succ])
  refine RL.stepK (i := 22) rfl (by kernel_rfl) (by rfl) (fun wb2 hlb2 hsb2 K hK => ?_)
  have hcf := HCF.out wb2 wa2.heap.size [110] (by decide) hsb2 (Rg.Blk.below (Rg.Blk.new wa2 _ _) hlb2 (by simp))
  simp only [List.length_cons, List.length_nil, Nat.reduceAdd] at hcf
  go_simp
  refine hcf.mono ?_
  rintro e w3 ⟨rfl, rfl⟩
  refine hK.out _ _ hsb2 ?_
  clear hK
  (try simp only [Act.put, List.setIfInBounds_toArray, List.set_cons_zero, List.set_cons_succ])
  refine' RL.takeV (i := 23) (v := _) rfl (by kernel_rfl) (by kernel_rfl) (by kernel_rfl) (fun _ _ _ h => h) (by rfl) ?hc2x23 ?rc2x23
  case hc2x23 => (intro W hSW; go_simp; try with_reducible rfl)
  (try simp only [Act.put, List.setIfInBounds_toArray, List.set_cons_zero, List.set_cons_succ])
  refine' RL.takeV (i := 24) (v := _) rfl (by kernel_rfl) (by kernel_rfl) (by kernel_rfl) (fun _ _ _ h => h) (by rfl) ?hp24 ?rp24
  case hp24 => (intro W hSW; go_simp; try with_reducible rfl)
  (try simp only [Act.put, List.setIfInBounds_toArray, List.set_cons_zero, List.set_cons_succ])
  refine' RL.takeV (i := 25) (v := _) rfl (by kernel_rfl) (by kernel_rfl) (by kernel_rfl) (fun _ _ _ h => h) (by rfl) ?hp25 ?rp25
  case hp25 => (intro W hSW; go_simp; try with_reducible rfl)
  (try simp only [Act.put, List.setIfInBounds_toArray, List.set_cons_zero, List.set_cons_succ])
  refine' RL.takeV (i := 26) (v := _) rfl (by kernel_rfl) (by kernel_rfl) (by kernel_rfl) (fun _ _ _ h => h) (by rfl) ?hc3x26 ?rc3x26
  case hc3x26 => (intro W hSW; go_simp; try with_reducible rfl)
  (try simp only [Act.put, List.setIfInBounds_toArray, List.set_cons_zero, List.set_cons_succ])
  refine' RL.takeV (i := 27) (v := _) rfl (by kernel_rfl) (by kernel_rfl) (by kernel_rfl) (fun _ _ _ h => h) (by rfl) ?hc3x27 ?rc3x27
  case hc3x27 => (intro W hSW; have g := Blk.cellAft HM.out hSW 4 (v := .slice ab nb cb) rfl; go_simp; try with_reducible rfl)
  (try simp only [Act.put, List.setIfInBounds_toArray, List.set_cons_zero, List.set_cons_succ])
  refine' RL.takeV (i := 28) (v := _) rfl (by kernel_rfl) (by kernel_rfl) (by kernel_rfl) (fun _ _ _ h => h) (by rfl) ?hc3x28 ?rc3x28
  case hc3x28 => (intro W hSW; go_simp; try with_reducible rfl)
  (try simp only [Act.put, List.setIfInBounds_toArray, List.set_cons_zero, List.set_cons_succ])
  refine' RL.takeV (i := 29) (v := _) rfl (by kernel_rfl) (by kernel_rfl) (by kernel_rfl) (fun _ _ _ h => h) (by rfl) ?hc3x29 ?rc3x29
  case hc3x29 => (intro W hSW; go_simp; try with_reducible rfl)
  (try simp only [Act.put, List.setIfInBounds_toArray, List.set_cons_zero, List.set_cons_succ])
  refine RL.stepK (i := 30) rfl (by kernel_rfl) (by rfl) (fun wa3 hla3 hsa3 K hK => ?_)
  go_simp
  refine hK.out _ _ (RL.Aft.alloc hsa3 _) ?_
  clear hK
  (try simp only [Act.put, List.setIfInBounds_toArray, List.set_cons_zero, List.set_cons_succ])
  refine RL.stepK (i := 31) rfl (by kernel_rfl) (by rfl) (fun wb3 hlb3 hsb3 K hK => ?_)
  have hcf := HCF.out wb3 wa3.heap.size [98] (by decide) hsb3 (Rg.Blk.below (Rg.Blk.new wa3 _ _) hlb3 (by simp))
  simp only [List.length_cons, List.length_nil, Nat.reduceAdd] at hcf
  go_simp
  refine hcf.mono ?_
  rintro e w3 ⟨rfl, rfl⟩
  refine hK.out _ _ hsb3 ?_
  clear hK
  (try simp only [Act.put, List.setIfInBounds_toArray, List.set_cons_zero, List.set_cons_succ])
  refine' RL.takeV (i := 32) (v := _) rfl (by kernel_rfl) (by kernel_rfl) (by kernel_rfl) (fun _ _ _ h => h) (by rfl) ?hc3x32 ?rc3x32
  case hc3x32 => (intro W hSW; go_simp; try with_reducible rfl)
  (try simp only [Act.put, List.setIfInBounds_toArray, List.set_cons_zero, List.set_cons_succ])
  refine' RL.takeV (i := 33) (v := _) rfl (by kernel_rfl) (by kernel_rfl) (by kernel_rfl) (fun _ _ _ h => h) (by rfl) ?hp33 ?rp33
  case hp33 => (intro W hSW; go_simp; try with_reducible rfl)
  (try simp only [Act.put, List.setIfInBounds_toArray, List.set_cons_zero, List.set_cons_succ])
  refine' RL.takeV (i := 34) (v := _) rfl (by kernel_rfl) (by kernel_rfl) (by kernel_rfl) (fun _ _ _ h => h) (by rfl) ?hp34 ?rp34
  case hp34 => (intro W hSW; go_simp; try with_reducible rfl)
  (try simp only [Act.put, List.setIfInBounds_toArray, List.set_cons_zero, List.set_cons_succ])
  refine RL.done (by kernel_rfl) (fun wd hlwd hswd => ?_)
  go_wp2_with fail
  go_ret
  exact ⟨rfl, HXW.out.trans (hswd.mono HXW.out.size)⟩
set_option maxRecDepth 20000 in
set_option maxHeartbeats 4000000 in
theorem counted_f4 (w : World) (kind : Int) (au aS an ab : Option Addr) (nu ns nn nb cu cs cn cb : Nat) (l : List UInt8) (hl : l.length ≤ 100)
    (h0 : nu = cntL l [117])
    (h1 : ns = cntL l [115, 99, 114])
    (h2 : nn = cntL l [110])
    (h3 : nb = cntL l [98])
    : Calls Tryz.prog 62 #[.agg (mC kind (.slice au nu cu) (.slice aS ns cs) (.slice an nn cn) (.slice ab nb cb)), .string (mkS l)] w fun e w' => e = .returned (.bool true) ∧ Below w.heap.size w w' := by
  have hmf : ∀ (fn : Fn) (first cap : Array Value) (w : World), (Instr.makeFunc fn first cap).run Tryz.prog w = .ok (.func fn first cap) w := fun _ _ _ _ => rfl
  have HL := Lib.hid hl
  subst h0
  subst h1
  subst h2
  subst h3
  obtain ⟨ls, hls⟩ : ∃ ls, mkS l = ls := ⟨_, rfl⟩
  rw [hls]
  have HLS := Lib.hid hls
  clear hl hls
  unfold mC
  go_enter Tryz.func62, Tryz.ntmps62
  go_wp2_with fail
  have hM : Rg.Blk ((w.alloc (.cells #[.int .i64 kind, .slice au (cntL l [117]) cu, .slice aS (cntL l [115, 99, 114]) cs, .slice an (cntL l [110]) cn, .slice ab (cntL l [98]) cb] 47)).alloc (.cells #[.string ls] 9)) w.heap.size 47 #[.int .i64 kind, .slice au (cntL l [117]) cu, .slice aS (cntL l [115, 99, 114]) cs, .slice an (cntL l [110]) cn, .slice ab (cntL l [98]) cb] := (Rg.Blk.new w _ _).alloc _
  have hL : Rg.Blk ((w.alloc (.cells #[.int .i64 kind, .slice au (cntL l [117]) cu, .slice aS (cntL l [115, 99, 114]) cs, .slice an (cntL l [110]) cn, .slice ab (cntL l [98]) cb] 47)).alloc (.cells #[.string ls] 9)) (w.heap.size + 1) 9 #[.string ls] := Rg.Blk.newAt (by simp) _ _
  have hXW : Below w.heap.size w ((w.alloc (.cells #[.int .i64 kind, .slice au (cntL l [117]) cu, .slice aS (cntL l [115, 99, 114]) cs, .slice an (cntL l [110]) cn, .slice ab (cntL l [98]) cb] 47)).alloc (.cells #[.string ls] 9)) := ((Below.refl _ _).alloc (Nat.le_refl _) _).alloc (by simp) _
  generalize ((w.alloc (.cells #[.int .i64 kind, .slice au (cntL l [117]) cu, .slice aS (cntL l [115, 99, 114]) cs, .slice an (cntL l [110]) cn, .slice ab (cntL l [98]) cb] 47)).alloc (.cells #[.string ls] 9)) = X at *
  have HM := Lib.hid hM
  have HXW := Lib.hid hXW
  have HCF := Lib.hid (show ∀ (W : World) (b : Nat) (cs : List UInt8), cs.length ≤ 10 → RL.Aft X W → Rg.Blk W b 9 (cs.map oneV).toArray → Calls Tryz.prog 72 #[.slice (some ⟨b, 0, none⟩) cs.length cs.length, .pointer (some ⟨w.heap.size + 1, 0, none⟩)] W fun e w' => e = .returned (.int .i64 (cntL l cs : Nat)) ∧ W = w' from fun W b cs hcs hA hB => count_fun W _ _ _ _ l cs rfl hcs HL.out (by rw [HLS.out]; exact hL.below hA hL.lt) (rd_ones W b cs hB))
  clear hM hL hXW
  refine RL.start (RL.Aft X) (by kernel_rfl) (RL.Aft.drew (RL.Aft.refl X)) ?_
  refine' RL.takeV (i := 0) (v := _) rfl (by kernel_rfl) (by kernel_rfl) (by kernel_rfl) (fun _ _ _ h => h) (by rfl) ?hc0x0 ?rc0x0
  case hc0x0 => (intro W hSW; go_simp; try with_reducible rfl)
  (try simp only [Act.put, List.setIfInBounds_toArray, List.set_cons_zero, List.set_cons_succ])
  refine' RL.takeV (i := 1) (v := _) rfl (by kernel_rfl) (by kernel_rfl) (by kernel_rfl) (fun _ _ _ h => h) (by rfl) ?hc0x1 ?rc0x1
  case hc0x1 => (intro W hSW; have g := Blk.cellAft HM.out hSW 1 (v := .slice au (cntL l [117]) cu) rfl; go_simp; try with_reducible rfl)
  (try simp only [Act.put, List.setIfInBounds_toArray, List.set_cons_zero, List.set_cons_succ])
  refine' RL.takeV (i := 2) (v := _) rfl (by kernel_rfl) (by kernel_rfl) (by kernel_rfl) (fun _ _ _ h => h) (by rfl) ?hc0x2 ?rc0x2
  case hc0x2 => (intro W hSW; go_simp; try with_reducible rfl)
  (try simp only [Act.put, List.setIfInBounds_toArray, List.set_cons_zero, List.set_cons_succ])
  refine' RL.takeV (i := 3) (v := _) rfl (by kernel_rfl) (by kernel_rfl) (by kernel_rfl) (fun _ _ _ h => h) (by rfl) ?hc0x3 ?rc0x3
  case hc0x3 => (intro W hSW; go_simp; try with_reducible rfl)
  (try simp only [Act.put, List.setIfInBounds_toArray, List.set_cons_zero, List.set_cons_succ])
  refine RL.stepK (i := 4) rfl (by kernel_rfl) (by rfl) (fun wa0 hla0 hsa0 K hK => ?_)
  go_simp
  refine hK.out _ _ (RL.Aft.alloc hsa0 _) ?_
  clear hK
  (try simp only [Act.put, List.setIfInBounds_toArray, List.set_cons_zero, List.set_cons_succ])
  refine RL.stepK (i := 5) rfl (by kernel_rfl) (by rfl) (fun wb0 hlb0 hsb0 K hK => ?_)
  have hcf := HCF.out wb0 wa0.heap.size [117] (by decide) hsb0 (Rg.Blk.below (Rg.Blk.new wa0 _ _) hlb0 (by simp))
  simp only [List.length_cons, List.length_nil, Nat.reduceAdd] at hcf
  go_simp
  refine hcf.mono ?_
  rintro e w3 ⟨rfl, rfl⟩
  refine hK.out _ _ hsb0 ?_
  clear hK
  (try simp only [Act.put, List.setIfInBounds_toArray, List.set_cons_zero, List.set_cons_succ])
  refine' RL.takeV (i := 6) (v := _) rfl (by kernel_rfl) (by kernel_rfl) (by kernel_rfl) (fun _ _ _ h => h) (by rfl) ?hc0x6 ?rc0x6
  case hc0x6 => (intro W hSW; go_simp; try with_reducible rfl)
  (try simp only [Act.put, List.setIfInBounds_toArray, List.set_cons_zero, List.set_cons_succ])
  refine' RL.takeV (i := 7) (v := _) rfl (by kernel_rfl) (by kernel_rfl) (by kernel_rfl) (fun _ _ _ h => h) (by rfl) ?hp7 ?rp7
  case hp7 => (intro W hSW; go_simp; try with_reducible rfl)
  (try simp only [Act.put, List.setIfInBounds_toArray, List.set_cons_zero, List.set_cons_succ])
  refine' RL.takeV (i := 8) (v := _) rfl (by kernel_rfl) (by kernel_rfl) (by kernel_rfl) (fun _ _ _ h => h) (by rfl) ?hc1x8 ?rc1x8
  case hc1x8 => (intro W hSW; go_simp; try with_reducible rfl)
  (try simp only [Act.put, List.setIfInBounds_toArray, List.set_cons_zero, List.set_cons_succ])
  refine' RL.takeV (i := 9) (v := _) rfl (by kernel_rfl) (by kernel_rfl) (by kernel_rfl) (fun _ _ _ h => h) (by rfl) ?hc1x9 ?rc1x9
  case hc1x9 => (intro W hSW; have g := Blk.cellAft HM.out hSW 2 (v := .slice aS (cntL l [115, 99, 114]) cs) rfl; go_simp; try with_reducible rfl)
  (try simp only [Act.put, List.setIfInBounds_toArray, List.set_cons_zero, List.set_cons_succ])
  refine' RL.takeV (i := 10) (v := _) rfl (by kernel_rfl) (by kernel_rfl) (by kernel_rfl) (fun _ _ _ h => h) (by rfl) ?hc1x10 ?rc1x10
  case hc1x10 => (intro W hSW; go_simp; try with_reducible rfl)
  (try simp only [Act.put, List.setIfInBounds_toArray, List.set_cons_zero, List.set_cons_succ])
  refine' RL.takeV (i := 11) (v := _) rfl (by kernel_rfl) (by kernel_rfl) (by kernel_rfl) (fun _ _ _ h => h) (by rfl) ?hc1x11 ?rc1x11
  case hc1x11 => (intro W hSW; go_simp; try with_reducible rfl)
  (try simp only [Act.put, List.setIfInBounds_toArray, List.set_cons_zero, List.set_cons_succ])
  refine RL.stepK (i := 12) rfl (by kernel_rfl) (by rfl) (fun wa1 hla1 hsa1 K hK => ?_)
  go_simp
  refine hK.out _ _ (RL.Aft.alloc hsa1 _) ?_
  clear hK
  (try simp only [Act.put, List.setIfInBounds_toArray, List.set_cons_zero, List.set_cons_succ])
  refine RL.stepK (i := 13) rfl (by kernel_rfl) (by rfl) (fun wb1 hlb1 hsb1 K hK => ?_)
  have hcf := HCF.out wb1 wa1.heap.size [115, 99, 114] (by decide) hsb1 (Rg.Blk.below (Rg.Blk.new wa1 _ _) hlb1 (by simp))
  simp only [List.length_cons, List.length_nil, Nat.reduceAdd] at hcf
  go_simp
  refine hcf.mono ?_
  rintro e w3 ⟨rfl, rfl⟩
  refine hK.out _ _ hsb1 ?_
  clear hK
  (try simp only [Act.put, List.setIfInBounds_toArray, List.set_cons_zero, List.set_cons_succ])
  refine' RL.takeV (i := 14) (v := _) rfl (by kernel_rfl) (by kernel_rfl) (by kernel_rfl) (fun _ _ _ h => h) (by rfl) ?hc1x14 ?rc1x14
  case hc1x14 => (intro W hSW; go_simp; try with_reducible rfl)
  (try simp only [Act.put, List.setIfInBounds_toArray, List.set_cons_zero, List.set_cons_succ])
  refine' RL.takeV (i := 15) (v := _) rfl (by kernel_rfl) (by kernel_rfl) (by kernel_rfl) (fun _ _ _ h => h) (by rfl) ?hp15 ?rp15
  case hp15 => (intro W hSW; go_simp; try with_reducible rfl)
  (try simp only [Act.put, List.setIfInBounds_toArray, List.set_cons_zero, List.set_cons_succ])
  refine' RL.takeV (i := 16) (v := _) rfl (by kernel_rfl) (by kernel_rfl) (by kernel_rfl) (fun _ _ _ h => h) (by rfl) ?hp16 ?rp16
  case hp16 => (intro W hSW; go_simp; try with_reducible rfl)
  (try simp only [Act.put, List.setIfInBounds_toArray, List.set_cons_zero, List.set_cons_succ])
  refine' RL.takeV (i := 17) (v := _) rfl (by kernel_rfl) (by kernel_rfl) (by kernel_rfl) (fun _ _ _ h => h) (by rfl) ?hc2x17 ?rc2x17
  case hc2x17 => (intro W hSW; go_simp; try with_reducible rfl)
  (try simp only [Act.put, List.setIfInBounds_toArray, List.set_cons_zero, List.set_cons_succ])
  refine' RL.takeV (i := 18) (v := _) rfl (by kernel_rfl) (by kernel_rfl) (by kernel_rfl) (fun _ _ _ h => h) (by rfl) ?hc2x18 ?rc2x18
  case hc2x18 => (intro W hSW; have g := Blk.cellAft HM.out hSW 3 (v := .slice an (cntL l [110]) cn) rfl; go_simp; try with_reducible rfl)
  (try simp only [Act.put, List.setIfInBounds_toArray, List.set_cons_zero, List.set_cons_succ])
  refine' RL.takeV (i := 19) (v := _) rfl (by kernel_rfl) (by kernel_rfl) (by kernel_rfl) (fun _ _ _ h => h) (by rfl) ?hc2x19 ?rc2x19
  case hc2x19 => (intro W hSW; go_simp; try with_reducible rfl)
  (try simp only [Act.put, List.setIfInBounds_toArray, List.set_cons_zero, List.set_cons_succ])
  refine' RL.takeV (i := 20) (v := _) rfl (by kernel_rfl) (by kernel_rfl) (by kernel_rfl) (fun _ _ _ h => h) (by rfl) ?hc2x20 ?rc2x20
  case hc2x20 => (intro W hSW; go_simp; try with_reducible rfl)
  (try simp only [Act.put, List.setIfInBounds_toArray, List.set_cons_zero, List.set_cons_succ])
  refine RL.stepK (i := 21) rfl (by kernel_rfl) (by rfl) (fun wa2 hla2 hsa2 K hK => ?_)
  go_simp
  refine hK.out _ _ (RL.Aft.alloc hsa2 _) ?_
  clear hK
  (try simp only [Act.put, List.setIfInBounds_toArray, List.set_cons_zero, List.set_cons_succ])
  refine RL.stepK (i := 22) rfl (by kernel_rfl) (by rfl) (fun wb2 hlb2 hsb2 K hK => ?_)
  have hcf := HCF.out wb2 wa2.heap.size [110] (by decide) hsb2 (Rg.Blk.below (Rg.Blk.new wa2 _ _) hlb2 (by simp))
  simp only [List.length_cons, List.length_nil, Nat.reduceAdd] at hcf
  go_simp
  refine hcf.mono ?_
  rintro e w3 ⟨rfl, rfl⟩
  refine hK.out _ _ hsb2 ?_
  clear hK
  (try simp only [Act.put, List.setIfInBounds_toArray, List.set_cons_zero, List.set_cons_succ])
  refine' RL.takeV (i := 23) (v := _) rfl (by kernel_rfl) (by kernel_rfl) (by kernel_rfl) (fun _ _ _ h => h) (by rfl) ?hc2x23 ?rc2x23
  case hc2x23 => (intro W hSW; go_simp; try with_reducible rfl)
  (try simp only [Act.put, List.setIfInBounds_toArray, List.set_cons_zero, List.set_cons_succ])
  refine' RL.takeV (i := 24) (v := _) rfl (by kernel_rfl) (by kernel_rfl) (by kernel_rfl) (fun _ _ _ h => h) (by rfl) ?hp24 ?rp24
  case hp24 => (intro W hSW; go_simp; try with_reducible rfl)
  (try simp only [Act.put, List.setIfInBounds_toArray, List.set_cons_zero, List.set_cons_succ])
  refine' RL.takeV (i := 25) (v := _) rfl (by kernel_rfl) (by kernel_rfl) (by kernel_rfl) (fun _ _ _ h => h) (by rfl) ?hp25 ?rp25
  case hp25 => (intro W hSW; go_simp; try with_reducible rfl)
  (try simp only [Act.put, List.setIfInBounds_toArray, List.set_cons_zero, List.set_cons_succ])
  refine' RL.takeV (i := 26) (v := _) rfl (by kernel_rfl) (by kernel_rfl) (by kernel_rfl) (fun _ _ _ h => h) (by rfl) ?hc3x26 ?rc3x26
  case hc3x26 => (intro W hSW; go_simp; try with_reducible rfl)
  (try simp only [Act.put, List.setIfInBounds_toArray, List.set_cons_zero, List.set_cons_succ])
  refine' RL.takeV (i := 27) (v := _) rfl (by kernel_rfl) (by kernel_rfl) (by kernel_rfl) (fun _ _ _ h => h) (by rfl) ?hc3x27 ?rc3x27
  case hc3x27 => (intro W hSW; have g := Blk.cellAft HM.out hSW 4 (v := .slice ab (cntL l [98]) cb) rfl; go_simp; try with_reducible rfl)
  (try simp only [Act.put, List.setIfInBounds_toArray, List.set_cons_zero, List.set_cons_succ])
  refine' RL.takeV (i := 28) (v := _) rfl (by kernel_rfl) (by kernel_rfl) (by kernel_rfl) (fun _ _ _ h => h) (by rfl) ?hc3x28 ?rc3x28
  case hc3x28 => (intro W hSW; go_simp; try with_reducible rfl)
  (try simp only [Act.put, List.setIfInBounds_toArray, List.set_cons_zero, List.set_cons_succ])
  refine' RL.takeV (i := 29) (v := _) rfl (by kernel_rfl) (by kernel_rfl) (by kernel_rfl) (fun _ _ _ h => h) (by rfl) ?hc3x29 ?rc3x29
  case hc3x29 => (intro W hSW; go_simp; try with_reducible rfl)
  (try simp only [Act.put, List.setIfInBounds_toArray, List.set_cons_zero, List.set_cons_succ])
  refine RL.stepK (i := 30) rfl (by kernel_rfl) (by rfl) (fun wa3 hla3 hsa3 K hK => ?_)
  go_simp
  refine hK.out _ _ (RL.Aft.alloc hsa3 _) ?_
  clear hK
  (try simp only [Act.put, List.setIfInBounds_toArray, List.set_cons_zero, List.set_cons_succ])
  refine RL.stepK (i := 31) rfl (by kernel_rfl) (by rfl) (fun wb3 hlb3 hsb3 K hK => ?_)
  have hcf := HCF.out wb3 wa3.heap.size [98] (by decide) hsb3 (Rg.Blk.below (Rg.Blk.new wa3 _ _) hlb3 (by simp))
  simp only [List.length_cons, List.length_nil, Nat.reduceAdd] at hcf
  go_simp
  refine hcf.mono ?_
  rintro e w3 ⟨rfl, rfl⟩
  refine hK.out _ _ hsb3 ?_
  clear hK
  (try simp only [Act.put, List.setIfInBounds_toArray, List.set_cons_zero, List.set_cons_succ])
  refine' RL.takeV (i := 32) (v := _) rfl (by kernel_rfl) (by kernel_rfl) (by kernel_rfl) (fun _ _ _ h => h) (by rfl) ?hc3x32 ?rc3x32
  case hc3x32 => (intro W hSW; go_simp; try with_reducible rfl)
  (try simp only [Act.put, List.setIfInBounds_toArray, List.set_cons_zero, List.set_cons_succ])
  refine' RL.takeV (i := 33) (v := _) rfl (by kernel_rfl) (by kernel_rfl) (by kernel_rfl) (fun _ _ _ h => h) (by rfl) ?hp33 ?rp33
  case hp33 => (intro W hSW; go_simp; try with_reducible rfl)
  (try simp only [Act.put, List.setIfInBounds_toArray, List.set_cons_zero, List.set_cons_succ])
  refine' RL.takeV (i := 34) (v := _) rfl (by kernel_rfl) (by kernel_rfl) (by kernel_rfl) (fun _ _ _ h => h) (by rfl) ?hp34 ?rp34
  case hp34 => (intro W hSW; go_simp; try with_reducible rfl)
  (try simp only [Act.put, List.setIfInBounds_toArray, List.set_cons_zero, List.set_cons_succ])
  refine RL.done (by kernel_rfl) (fun wd hlwd hswd => ?_)
  go_wp2_with fail
  go_ret
  exact ⟨rfl, HXW.out.trans (hswd.mono HXW.out.size)⟩
theorem counted_any (w : World) (kind : Int) (au aS an ab : Option Addr) (nu ns nn nb cu cs cn cb : Nat) (l : List UInt8) (hl : l.length ≤ 100) :
    Calls Tryz.prog 62 #[.agg (mC kind (.slice au nu cu) (.slice aS ns cs) (.slice an nn cn) (.slice ab nb cb)), .string (mkS l)] w fun e w' => e = .returned (.bool (decide (nu = l.count 117) && decide (ns = cntS l) && decide (nn = l.count 110) && decide (nb = l.count 98))) ∧ Below w.heap.size w w' := by
  have e0 : cntL l [117] = l.count 117 := by simp [cntL]
  have e1 : cntL l [115, 99, 114] = cntS l := by simp [cntL, cntS]; omega
  have e2 : cntL l [110] = l.count 110 := by simp [cntL]
  have e3 : cntL l [98] = l.count 98 := by simp [cntL]
  by_cases h0 : nu = l.count 117
  · by_cases h1 : ns = cntS l
    · by_cases h2 : nn = l.count 110
      · by_cases h3 : nb = l.count 98
        · simpa [h0, h1, h2, h3] using counted_f4 w kind au aS an ab nu ns nn nb cu cs cn cb l hl (h0.trans e0.symm) (h1.trans e1.symm) (h2.trans e2.symm) (h3.trans e3.symm)
        · simpa [h0, h1, h2, h3] using counted_f3 w kind au aS an ab nu ns nn nb cu cs cn cb l hl (h0.trans e0.symm) (h1.trans e1.symm) (h2.trans e2.symm) (fun e => h3 (e.trans e3))
      · simpa [h0, h1, h2] using counted_f2 w kind au aS an ab nu ns nn nb cu cs cn cb l hl (h0.trans e0.symm) (h1.trans e1.symm) (fun e => h2 (e.trans e2))
    · simpa [h0, h1] using counted_f1 w kind au aS an ab nu ns nn nb cu cs cn cb l hl (h0.trans e0.symm) (fun e => h1 (e.trans e1))
  · simpa [h0] using counted_f0 w kind au aS an ab nu ns nn nb cu cs cn cb l hl (fun e => h0 (e.trans e0))
end Go.Proofs.YtjfikbnfabdkoaaGreatDoor.Mg
