/- The reference's Write. -/
import Derived.Test.YtfcemnebhapidaaDoorTmRs
import Derived.Test.YtfcemnebhapidaaDoorTmRt
import Derived.Test.YtfcemnebhapidaaDoorTmBld
import Derived.Deep.QuietTactic
import Derived.BigQuiet
set_option linter.unusedVariables false
set_option linter.unusedSimpArgs false
namespace Go.Proofs.YtfcemnebhapidaaDoor.Te
open Go.RowKit Go.Proofs.YtfcemnebhapidaaDoor.Ow
theorem rd_at {w : World} {b o j : Nat} {xs : List Value} {v : Value} (h : Rd w (some ⟨b, o, none⟩) xs) (hv : xs[j]? = some v) : w.cell? ⟨b, o + j, none⟩ = some v := by
  obtain ⟨b', o', e, _, hc⟩ := h j v hv
  injection e with e
  injection e with e1 e2
  subst e1 e2
  exact hc
theorem sh_no {x : List UInt8} (h : x ≠ word 4) : ((strB x).toList == [115, 104, 97, 114, 101]) = false := by rw [strB_toList, beq_eq_false_iff_ne]; exact h
theorem cat_one (x p : List UInt8) : strB x ++ ⟨#[40]⟩ ++ strB p ++ ⟨#[41]⟩ = strB (x ++ 40 :: (p ++ [41])) := by
  rw [show (⟨#[40]⟩ : ByteArray) = strB [40] from rfl, show (⟨#[41]⟩ : ByteArray) = strB [41] from rfl, strB_append, strB_append, strB_append]; simp
theorem cat_two (x p q : List UInt8) : strB x ++ ⟨#[40]⟩ ++ strB p ++ ⟨#[44]⟩ ++ strB q ++ ⟨#[41]⟩ = strB (x ++ 40 :: (p ++ 44 :: (q ++ [41]))) := by
  rw [show (⟨#[40]⟩ : ByteArray) = strB [40] from rfl, show (⟨#[41]⟩ : ByteArray) = strB [41] from rfl, show (⟨#[44]⟩ : ByteArray) = strB [44] from rfl, strB_append, strB_append, strB_append, strB_append, strB_append]; simp
set_option maxRecDepth 20000 in
set_option maxHeartbeats 4000000 in
theorem RWrite_one (w : World) (A : Option Addr) (c : Nat) (x p : List UInt8) (hx : x ≠ word 4) (hxl : x.length ≤ 100000) (hp : p.length ≤ 100000) (hA : Rd w A ([p].map encStr)) :
    Calls Tryd.prog 31 #[.string (strB x), .slice A 1 c] w fun e w' => e = .returned (.string (strB (x ++ 40 :: (p ++ [41])))) ∧ Below w.heap.size w w' := by
  obtain ⟨b, o, rfl, hlb, -⟩ := hA.place (by simp)
  have c0 : w.cell? ⟨b, o, none⟩ = some (.string (strB p)) := rd_at hA (j := 0) rfl
  have hsh : ((strB x).toList == [115, 104, 97, 114, 101]) = false := sh_no hx
  have hs1 : (strB x).size ≤ 100000 := by rw [strB_size]; exact hxl
  have hs2 : (strB p).size ≤ 100000 := by rw [strB_size]; exact hp
  have HA := Lib.hid hA
  clear hA hx hxl hp
  go_enter Tryd.func31, Tryd.ntmps31
  go_upto_region 1 with fail
  go_quiet (fail)
  generalize hX : w.drewN _ = X
  have HX := Lib.hid (show Below w.heap.size w X from hX ▸ bdN (Below.refl _ _) _)
  have c0 : X.cell? ⟨b, o, none⟩ = some (.string (strB p)) := rd_at (HA.out.below HX.out) (j := 0) rfl
  clear hX
  go_wp2
  refine wp_loop_rounds 3 ?_
  rw [rounds_succ]
  go_wp2
  rw [rounds_succ]
  go_wp2
  go_ret
  exact ⟨by rw [← cat_one]; rfl, HX.out⟩
set_option maxRecDepth 20000 in
set_option maxHeartbeats 4000000 in
theorem RWrite_two (w : World) (A : Option Addr) (c : Nat) (x p q : List UInt8) (hx : x ≠ word 4) (hxl : x.length ≤ 100000) (hp : p.length ≤ 100000) (hq : q.length ≤ 100000) (hA : Rd w A ([p, q].map encStr)) :
    Calls Tryd.prog 31 #[.string (strB x), .slice A 2 c] w fun e w' => e = .returned (.string (strB (x ++ 40 :: (p ++ 44 :: (q ++ [41]))))) ∧ Below w.heap.size w w' := by
  obtain ⟨b, o, rfl, hlb, -⟩ := hA.place (by simp)
  have c0 : w.cell? ⟨b, o, none⟩ = some (.string (strB p)) := rd_at hA (j := 0) rfl
  have c1 : w.cell? ⟨b, o + 1, none⟩ = some (.string (strB q)) := rd_at hA (j := 1) rfl
  have hsh : ((strB x).toList == [115, 104, 97, 114, 101]) = false := sh_no hx
  have hs1 : (strB x).size ≤ 100000 := by rw [strB_size]; exact hxl
  have hs2 : (strB p).size ≤ 100000 := by rw [strB_size]; exact hp
  have hs3 : (strB q).size ≤ 100000 := by rw [strB_size]; exact hq
  have HA := Lib.hid hA
  clear hA hx hxl hp hq
  go_enter Tryd.func31, Tryd.ntmps31
  go_upto_region 1 with fail
  go_quiet (fail)
  generalize hX : w.drewN _ = X
  have HX := Lib.hid (show Below w.heap.size w X from hX ▸ bdN (Below.refl _ _) _)
  have c0 : X.cell? ⟨b, o, none⟩ = some (.string (strB p)) := rd_at (HA.out.below HX.out) (j := 0) rfl
  have c1 : X.cell? ⟨b, o + 1, none⟩ = some (.string (strB q)) := rd_at (HA.out.below HX.out) (j := 1) rfl
  clear hX
  go_wp2
  refine wp_loop_rounds 4 ?_
  rw [rounds_succ]
  go_wp2
  rw [rounds_succ]
  go_wp2
  rw [rounds_succ]
  go_wp2
  go_ret
  exact ⟨by rw [← cat_two]; rfl, HX.out⟩
set_option maxRecDepth 20000 in
set_option maxHeartbeats 4000000 in
theorem RWrite_shn (w : World) (A : Option Addr) (c : Nat) (x p q : List UInt8) (hx : x = word 4) (hlt : ¬ q < p) (hxl : x.length ≤ 100000) (hp : p.length ≤ 100000) (hq : q.length ≤ 100000) (hA : Rd w A ([p, q].map encStr)) :
    Calls Tryd.prog 31 #[.string (strB x), .slice A 2 c] w fun e w' => e = .returned (.string (strB (x ++ 40 :: (p ++ 44 :: (q ++ [41]))))) ∧ Below w.heap.size w w' := by
  obtain ⟨b, o, rfl, hlb, -⟩ := hA.place (by simp)
  have c0 : w.cell? ⟨b, o, none⟩ = some (.string (strB p)) := rd_at hA (j := 0) rfl
  have c1 : w.cell? ⟨b, o + 1, none⟩ = some (.string (strB q)) := rd_at hA (j := 1) rfl
  have hsh : ((strB x).toList == [115, 104, 97, 114, 101]) = true := by rw [strB_toList, hx]; rfl
  have hbl : Op.bytesLess (strB q).toList (strB p).toList = false := by rw [bytesLess_eq, strB_toList, strB_toList]; simpa using hlt
  have hs1 : (strB x).size ≤ 100000 := by rw [strB_size]; exact hxl
  have hs2 : (strB p).size ≤ 100000 := by rw [strB_size]; exact hp
  have hs3 : (strB q).size ≤ 100000 := by rw [strB_size]; exact hq
  have HA := Lib.hid hA
  clear hA hx hxl hp hq hlt
  go_enter Tryd.func31, Tryd.ntmps31
  go_upto_region 1 with fail
  go_quiet (fail)
  generalize hX : w.drewN _ = X
  have HX := Lib.hid (show Below w.heap.size w X from hX ▸ bdN (Below.refl _ _) _)
  have c0 : X.cell? ⟨b, o, none⟩ = some (.string (strB p)) := rd_at (HA.out.below HX.out) (j := 0) rfl
  have c1 : X.cell? ⟨b, o + 1, none⟩ = some (.string (strB q)) := rd_at (HA.out.below HX.out) (j := 1) rfl
  clear hX
  go_wp2
  refine wp_loop_rounds 4 ?_
  rw [rounds_succ]
  go_wp2
  rw [rounds_succ]
  go_wp2
  rw [rounds_succ]
  go_wp2
  go_ret
  exact ⟨by rw [← cat_two]; rfl, HX.out⟩
set_option maxRecDepth 20000 in
set_option maxHeartbeats 4000000 in
theorem RWrite_shs (w : World) (A : Option Addr) (c : Nat) (x p q : List UInt8) (hx : x = word 4) (hlt : q < p) (hxl : x.length ≤ 100000) (hp : p.length ≤ 100000) (hq : q.length ≤ 100000) (hA : Rd w A ([p, q].map encStr)) :
    Calls Tryd.prog 31 #[.string (strB x), .slice A 2 c] w fun e w' => e = .returned (.string (strB (x ++ 40 :: (q ++ 44 :: (p ++ [41]))))) ∧ Below w.heap.size w w' := by
  obtain ⟨b, o, rfl, hlb, -⟩ := hA.place (by simp)
  have c0 : w.cell? ⟨b, o, none⟩ = some (.string (strB p)) := rd_at hA (j := 0) rfl
  have c1 : w.cell? ⟨b, o + 1, none⟩ = some (.string (strB q)) := rd_at hA (j := 1) rfl
  have hsh : ((strB x).toList == [115, 104, 97, 114, 101]) = true := by rw [strB_toList, hx]; rfl
  have hbl : Op.bytesLess (strB q).toList (strB p).toList = true := by rw [bytesLess_eq, strB_toList, strB_toList]; simpa using hlt
  have hs1 : (strB x).size ≤ 100000 := by rw [strB_size]; exact hxl
  have hs2 : (strB p).size ≤ 100000 := by rw [strB_size]; exact hp
  have hs3 : (strB q).size ≤ 100000 := by rw [strB_size]; exact hq
  have HA := Lib.hid hA
  clear hA hx hxl hp hq hlt
  go_enter Tryd.func31, Tryd.ntmps31
  go_upto_region 1 with fail
  go_quiet (fail)
  generalize hX : w.drewN _ = X
  have HX := Lib.hid (show Below w.heap.size w X from hX ▸ bdN (Below.refl _ _) _)
  have c0 : X.cell? ⟨b, o, none⟩ = some (.string (strB p)) := rd_at (HA.out.below HX.out) (j := 0) rfl
  have c1 : X.cell? ⟨b, o + 1, none⟩ = some (.string (strB q)) := rd_at (HA.out.below HX.out) (j := 1) rfl
  clear hX
  go_upto_region 2 with fail
  go_quiet (fail)
  go_wp2
  go_ret
  exact ⟨by rw [← cat_two]; rfl, bdN HX.out _⟩
end Go.Proofs.YtfcemnebhapidaaDoor.Te
