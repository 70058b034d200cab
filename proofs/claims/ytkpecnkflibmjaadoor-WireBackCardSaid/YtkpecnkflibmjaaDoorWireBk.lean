/- What was written is read back: the calls; items of the law WireBack. -/
import Derived.Test.YtkpecnkflibmjaaDoorWireSpl
import Derived.Test.YtkpecnkflibmjaaDoorWireSame
import Derived.Test.YtkpecnkflibmjaaDoorOwnS
import Derived.Test.YtkpecnkflibmjaaDoorLawWireWrites
set_option linter.unusedVariables false
set_option linter.unusedSimpArgs false
namespace Go.Proofs.YtkpecnkflibmjaaDoor.Wi
open Go.RowKit Go.Proofs.YtkpecnkflibmjaaDoor.Ow Go.Proofs.YtkpecnkflibmjaaDoor.Be
theorem mkS_ext {s : ByteArray} {l : List UInt8} (h : s.data.toList = l) : s = mkS l := ext_list _ _ h
theorem U64_back (w : World) (E : Nat → Value) (b N : Nat) (r : List UInt8) (hN : N < 18446744073709551616) (hr : r.length ≤ 1000000) (hE : Errs w E) (hb : Gl b) (h : IsIn w b (mkS (be 8 N ++ r)) (evV E 0)) :
    Calls Tryd.prog 26 #[.pointer (some ⟨b, 0, none⟩)] w (Gave E b w (.int .u64 (N : Int)) (mkS r) 0) := by
  obtain ⟨h1, h2, h3⟩ := raw_back (mkS (be 8 N ++ r)) (be 8 N) r 8 rfl (be_length _ _)
  have hv : numV (rawR (mkS (be 8 N ++ r)) 0 8).data.toList = N := by rw [h1, numV_be]; exact Nat.mod_eq_of_lt hN
  have := InU64_any w E b (mkS (be 8 N ++ r)) 0 (by rw [mkS_size, List.length_append, be_length]; omega) hE hb h
  rw [hv, mkS_ext h2, h3] at this
  exact this
theorem Text_back (w : World) (E : Nat → Value) (b : Nat) (x : ByteArray) (r : List UInt8) (hx : x.size ≤ 40) (hr : r.length ≤ 1000000) (hE : Errs w E) (hb : Gl b) (h : IsIn w b (mkS (textL x.data.toList ++ r)) (evV E 0)) :
    Calls Tryd.prog 27 #[.pointer (some ⟨b, 0, none⟩), .int .i64 40] w (Gave E b w (.string x) (mkS r) 0) := by
  obtain ⟨h1, h2, h3⟩ := txt_back (mkS (textL x.data.toList ++ r)) x.data.toList r 40 rfl (by rw [len_list]; omega) (by rw [len_list]; omega)
  have := InText_any w E b (mkS (textL x.data.toList ++ r)) 0 40 (by rw [mkS_size]; unfold textL; rw [List.length_append, List.length_append, be_length, len_list]; omega) hE hb h
  rw [ext_list _ _ h1, mkS_ext h2, h3] at this
  exact this
theorem Names_back (w : World) (E : Nat → Value) (b : Nat) (ys : List ByteArray) (r : List UInt8) (hm : (joinC ys).length ≤ 4096) (hok : ys.all okN = true) (hr : r.length ≤ 900000) (hE : Errs w E) (hb : Gl b) (hM : ∃ m, w.cell? ⟨20, 0, none⟩ = some (.int .i64 m)) (hgm : 20 < b) (h : IsIn w b (mkS (textL (joinC ys) ++ r)) (evV E 0)) :
    Calls Tryd.prog 29 #[.pointer (some ⟨b, 0, none⟩)] w fun e w' => ∃ A, e = .returned (.slice A ys.length ys.length) ∧ Rd w' A (ys.map Value.string) ∧ IsIn w' b (mkS r) (evV E 0) ∧ w.grownBy w' (some b) := by
  obtain ⟨h1, h2, h3⟩ := names_back (mkS (textL (joinC ys) ++ r)) ys r rfl hm hok
  have hz : (mkS (textL (joinC ys) ++ r)).size ≤ 1000000 := by rw [mkS_size]; unfold textL; rw [List.length_append, List.length_append, be_length]; omega
  have := InNames_any w E b (mkS (textL (joinC ys) ++ r)) 0 (by omega) hE hb hM hgm hz h
  rw [h1, mkS_ext h2, h3] at this
  exact this
theorem Big_back (w : World) (E : Nat → Value) (b : Nat) (x t : ByteArray) (r : List UInt8) (hx : x.size ≤ 40) (ht : t.data.toList = strip x.data.toList) (hr : r.length ≤ 1000000) (hE : Errs w E) (hb : Gl b) (h : IsIn w b (mkS (textL (bigL x.data.toList) ++ r)) (evV E 0)) :
    Calls Tryd.prog 30 #[.pointer (some ⟨b, 0, none⟩), .int .i64 40] w (Gave E b w (.string t) (mkS r) 0) := by
  obtain ⟨h1, h2, h3⟩ := big_back (mkS (textL (bigL x.data.toList) ++ r)) x.data.toList r rfl (by rw [len_list]; omega)
  have hl := bigL_length x.data.toList
  rw [len_list] at hl
  have := InBig_any w E b (mkS (textL (bigL x.data.toList) ++ r)) 0 40 (by rw [mkS_size]; unfold textL; rw [List.length_append, List.length_append, be_length]; omega) hE hb h (by decide)
  rw [ext_list _ _ (h1.trans ht.symm), mkS_ext h2, h3] at this
  exact this
theorem Bool_back (w : World) (E : Nat → Value) (b : Nat) (c : Bool) (r : List UInt8) (hr : r.length ≤ 1000000) (hE : Errs w E) (hb : Gl b) (h : IsIn w b (mkS ([if c then 1 else 0] ++ r)) (evV E 0)) :
    Calls Tryd.prog 31 #[.pointer (some ⟨b, 0, none⟩)] w (Gave E b w (.bool c) (mkS r) 0) := by
  obtain ⟨h1, h2, h3⟩ := raw_back (mkS ([if c then 1 else 0] ++ r)) [if c then 1 else 0] r 1 rfl rfl
  have hv : (numV (rawR (mkS ([if c then 1 else 0] ++ r)) 0 1).data.toList != 0) = c := by rw [h1]; cases c <;> rfl
  have := InBool_any w E b (mkS ([if c then 1 else 0] ++ r)) 0 (by rw [mkS_size, List.length_append]; simp only [List.length_cons, List.length_nil]; omega) hE hb h
  rw [hv, mkS_ext h2, h3] at this
  exact this
theorem IsOut.keptT {T0 : TypeId} {B b : Nat} {l : List UInt8} {w w' : World} (h : IsOut B b l w) (hk : KeptT T0 w w') (h1 : 31 ≠ T0) (h2 : 5 ≠ T0) : IsOut B b l w' := by
  have at_ : ∀ p, Lib.BuilderAt 31 5 B b p (bv l) w → Lib.BuilderAt 31 5 B b p (bv l) w' := by
    rintro p ⟨hB, v, hbk, hown, hne⟩
    exact ⟨hB, v, hk.row _ _ _ _ hbk h1, hk.owns hown h2, hne⟩
  exact h.imp (at_ _) (at_ _)
theorem RdS.keptT {T0 : TypeId} {w w' : World} {B : Nat} {A : Option Addr} {xs : List Value} (h : RdS w B A xs) (hk : KeptT T0 w w') (h1 : 9 ≠ T0) : RdS w' B A xs := fun j x hx => by
  obtain ⟨g, cur, fz, hA, hB, hg, hc⟩ := h j x hx
  exact ⟨g, cur, fz, hA, hB, hk.row _ _ _ _ hg h1, hc⟩
/-- an item that was written -/
structure ItOk (w : World) (B : Nat) (f : Fld) : Prop where
  n : f.n < 18446744073709551616
  s : f.s.size ≤ 40
  few : f.xs.length ≤ 6
  cap : f.xs.length ≤ f.c
  ok : f.xs.all okN = true
  short : ∀ x ∈ f.xs, x.size ≤ 70
  rd : RdS w B f.a (f.xs.map Value.string)
theorem ItOk.below {w w' : World} {B : Nat} {f : Fld} (h : ItOk w B f) (hb : Below w.heap.size w w') : ItOk w' B f := { h with rd := h.rd.below hb }
theorem ItOk.keptT {T0 : TypeId} {w w' : World} {B : Nat} {f : Fld} (h : ItOk w B f) (hk : KeptT T0 w w') (h1 : 9 ≠ T0) : ItOk w' B f := { h with rd := h.rd.keptT hk h1 }
theorem ItOk.calm {w w' : World} {B C b : Nat} {f : Fld} (h : ItOk w B f) (hb : Bo.Calm C b w w') (hB : b < B) : ItOk w' B f := { h with rd := h.rd.calm hb hB }
def fldC (f : Fld) : List Value := (fieldC f.kind f.n f.s (.slice f.a f.xs.length f.c)).toList
theorem fldC_length (f : Fld) : (fldC f).length = 4 := rfl
/-- an item's bytes -/
def encI (f : Fld) : List UInt8 := be 8 f.n ++ (textL f.s.data.toList ++ (textL (joinC f.xs) ++ (textL (bigL f.s.data.toList) ++ [if decide ((9 : Int) < (f.n : Int)) then 1 else 0])))
def encs (fs : List Fld) : List UInt8 := fs.flatMap encI
theorem encs_snoc (fs : List Fld) (f : Fld) : encs (fs ++ [f]) = encs fs ++ encI f := by simp [encs]
theorem encs_cons (fs : List Fld) (f : Fld) : encs (f :: fs) = encI f ++ encs fs := by simp [encs]
theorem textL_length (l : List UInt8) : (textL l).length = 4 + l.length := by unfold textL; rw [List.length_append, be_length]
theorem joinC_six {w : World} {B : Nat} {f : Fld} (h : ItOk w B f) : (joinC f.xs).length ≤ 426 := by
  have := joinC_le f.xs f.xs.length (Nat.le_refl _) h.short
  rw [List.take_length] at this
  have := h.few
  omega
theorem encI_length {w : World} {B : Nat} {f : Fld} (h : ItOk w B f) : (encI f).length ≤ 600 := by
  have h1 := joinC_six h
  have h2 := bigL_length f.s.data.toList
  have h3 := h.s
  unfold encI
  simp only [List.length_append, textL_length, be_length, List.length_singleton]
  rw [len_list] at *
  omega
theorem encs_length {w : World} {B : Nat} : ∀ (fs : List Fld), (∀ f ∈ fs, ItOk w B f) → (encs fs).length ≤ 600 * fs.length
  | [], _ => Nat.le_refl _
  | f :: fs, h => by
    have := encs_length fs (fun g hg => h g (List.mem_cons_of_mem _ hg))
    have h1 := encI_length (h f (List.mem_cons_self ..))
    rw [encs_cons, List.length_append, List.length_cons]; omega
theorem cells_at (fs : List Fld) (j : Nat) (f : Fld) (hf : fs[j]? = some f) (i : Nat) (v : Value) (hv : (fieldC f.kind f.n f.s (.slice f.a f.xs.length f.c))[i]? = some v) : (fs.flatMap fldC)[j * 4 + i]? = some v := by
  induction fs generalizing j with
  | nil => simp at hf
  | cons g fs ih =>
    have hi : i < 4 := (Array.getElem?_eq_some_iff.1 hv).1
    rw [List.flatMap_cons]
    cases j with
    | zero =>
      simp only [List.getElem?_cons_zero, Option.some.injEq] at hf
      subst hf
      rw [Nat.zero_mul, Nat.zero_add, List.getElem?_append_left (by rw [fldC_length]; exact hi)]
      unfold fldC; rw [Array.getElem?_toList]; exact hv
    | succ j =>
      rw [List.getElem?_cons_succ] at hf
      rw [List.getElem?_append_right (by rw [fldC_length]; omega), fldC_length, show (j + 1) * 4 + i - 4 = j * 4 + i by omega]
      exact ih j hf
theorem okN_take {ys : List ByteArray} {k : Nat} {x : ByteArray} (hx : ys[k]? = some x) (ho : okN x = true) : (ys.take (k + 1)).filter okN = (ys.take k).filter okN ++ [x] := by
  rw [List.take_add_one, hx, List.filter_append]; simp [ho]
theorem okN_skip {ys : List ByteArray} {k : Nat} {x : ByteArray} (hx : ys[k]? = some x) (ho : okN x = false) : (ys.take (k + 1)).filter okN = (ys.take k).filter okN := by
  rw [List.take_add_one, hx, List.filter_append]; simp [ho]
end Go.Proofs.YtkpecnkflibmjaaDoor.Wi
