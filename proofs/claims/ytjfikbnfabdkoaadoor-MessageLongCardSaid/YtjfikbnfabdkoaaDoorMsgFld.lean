/- message.fields: the next field of each letter. -/
import Derived.Test.YtjfikbnfabdkoaaDoorGen
set_option linter.unusedVariables false
set_option linter.unusedSimpArgs false
namespace Go.Proofs.YtjfikbnfabdkoaaDoor.Mg
open Go.RowKit Go.Proofs.YtjfikbnfabdkoaaDoor.Wi Go.Proofs.YtjfikbnfabdkoaaDoor.Ow Go.Proofs.YtjfikbnfabdkoaaDoor.Cl
/-- a message's cells -/
def mC (kind : Int) (u s n b : Value) : Array Value := #[.int .i64 kind, u, s, n, b]
theorem u_any (w : World) (fb : Nat) (kind : Int) (b o n c : Nat) (x : Nat) (vs vn vb : Value) (h : Rg.Blk w fb 96 (mC kind (.slice (some ⟨b, o, none⟩) (n + 1) c) vs vn vb)) (hx : w.cell? ⟨b, o, none⟩ = some (.int .u32 (x : Int))) (hc : n + 1 ≤ c) (hm : c ≤ maxLen) :
    Calls Tryd.prog 53 #[.pointer (some ⟨fb, 0, none⟩)] w fun e w' => e = .returned (.int .u32 (x : Int)) ∧ (∃ A', Rg.Blk w' fb 96 (mC kind (.slice A' n (c - 1)) vs vn vb) ∧ (n ≠ 0 → A' = some ⟨b, o + 1, none⟩)) ∧ w.grownBy w' (some fb) := by
  have H := Lib.hid h
  have c1 := h.cell 1 (v := .slice (some ⟨b, o, none⟩) (n + 1) c) rfl
  have hI : (0 : Int) < (n : Int) + 1 := by omega
  have hI2 : (1 : Int) ≤ (n : Int) + 1 := by omega
  have hI3 : ((n + 1 : Nat) : Int) ≤ c := by omega
  unfold maxLen at hm
  clear h
  by_cases h1 : c = 1
  · subst h1
    have hn : n = 0 := by omega
    subst hn
    go_enter Tryd.func53, Tryd.ntmps53
    go_wp2_with (first
      | (refine store_slice rfl 28 _ _ rfl rfl rfl Tryd.underlying28 (by kernel_rfl) H.out rfl ?_
         intro V hV hgV
         have HV := Lib.hid hV
         have HG := Lib.hid hgV
         clear hV hgV))
    go_ret
    exact ⟨rfl, ⟨some ⟨b, o, none⟩, HV.out, fun e => by first | rfl | exact absurd rfl e⟩, HG.out⟩
  · have h2 : (1 : Int) < c := by omega
    go_enter Tryd.func53, Tryd.ntmps53
    go_wp2_with (first
      | (refine store_slice rfl 28 _ _ rfl rfl rfl Tryd.underlying28 (by kernel_rfl) H.out rfl ?_
         intro V hV hgV
         have HV := Lib.hid hV
         have HG := Lib.hid hgV
         clear hV hgV))
    go_ret
    exact ⟨rfl, ⟨some ⟨b, o + 1, none⟩, HV.out, fun e => by first | rfl | exact absurd rfl e⟩, HG.out⟩
theorem s_any (w : World) (fb : Nat) (kind : Int) (b o n c : Nat) (x : ByteArray) (vu vn vb : Value) (h : Rg.Blk w fb 96 (mC kind vu (.slice (some ⟨b, o, none⟩) (n + 1) c) vn vb)) (hx : w.cell? ⟨b, o, none⟩ = some (.string x)) (hc : n + 1 ≤ c) (hm : c ≤ maxLen) :
    Calls Tryd.prog 46 #[.pointer (some ⟨fb, 0, none⟩)] w fun e w' => e = .returned (.string x) ∧ (∃ A', Rg.Blk w' fb 96 (mC kind vu (.slice A' n (c - 1)) vn vb) ∧ (n ≠ 0 → A' = some ⟨b, o + 1, none⟩)) ∧ w.grownBy w' (some fb) := by
  have H := Lib.hid h
  have c1 := h.cell 2 (v := .slice (some ⟨b, o, none⟩) (n + 1) c) rfl
  have hI : (0 : Int) < (n : Int) + 1 := by omega
  have hI2 : (1 : Int) ≤ (n : Int) + 1 := by omega
  have hI3 : ((n + 1 : Nat) : Int) ≤ c := by omega
  unfold maxLen at hm
  clear h
  by_cases h1 : c = 1
  · subst h1
    have hn : n = 0 := by omega
    subst hn
    go_enter Tryd.func46, Tryd.ntmps46
    go_wp2_with (first
      | (refine store_slice rfl 23 _ _ rfl rfl rfl Tryd.underlying23 (by kernel_rfl) H.out rfl ?_
         intro V hV hgV
         have HV := Lib.hid hV
         have HG := Lib.hid hgV
         clear hV hgV))
    go_ret
    exact ⟨rfl, ⟨some ⟨b, o, none⟩, HV.out, fun e => by first | rfl | exact absurd rfl e⟩, HG.out⟩
  · have h2 : (1 : Int) < c := by omega
    go_enter Tryd.func46, Tryd.ntmps46
    go_wp2_with (first
      | (refine store_slice rfl 23 _ _ rfl rfl rfl Tryd.underlying23 (by kernel_rfl) H.out rfl ?_
         intro V hV hgV
         have HV := Lib.hid hV
         have HG := Lib.hid hgV
         clear hV hgV))
    go_ret
    exact ⟨rfl, ⟨some ⟨b, o + 1, none⟩, HV.out, fun e => by first | rfl | exact absurd rfl e⟩, HG.out⟩
theorem n_any (w : World) (fb : Nat) (kind : Int) (b o n c : Nat) (xa : Option Addr) (xn xc : Nat) (vu vs vb : Value) (h : Rg.Blk w fb 96 (mC kind vu vs (.slice (some ⟨b, o, none⟩) (n + 1) c) vb)) (hx : w.cell? ⟨b, o, none⟩ = some (.slice xa xn xc)) (hc : n + 1 ≤ c) (hm : c ≤ maxLen) :
    Calls Tryd.prog 48 #[.pointer (some ⟨fb, 0, none⟩)] w fun e w' => e = .returned (.slice xa xn xc) ∧ (∃ A', Rg.Blk w' fb 96 (mC kind vu vs (.slice A' n (c - 1)) vb) ∧ (n ≠ 0 → A' = some ⟨b, o + 1, none⟩)) ∧ w.grownBy w' (some fb) := by
  have H := Lib.hid h
  have c1 := h.cell 3 (v := .slice (some ⟨b, o, none⟩) (n + 1) c) rfl
  have hI : (0 : Int) < (n : Int) + 1 := by omega
  have hI2 : (1 : Int) ≤ (n : Int) + 1 := by omega
  have hI3 : ((n + 1 : Nat) : Int) ≤ c := by omega
  unfold maxLen at hm
  clear h
  by_cases h1 : c = 1
  · subst h1
    have hn : n = 0 := by omega
    subst hn
    go_enter Tryd.func48, Tryd.ntmps48
    go_wp2_with (first
      | (refine store_slice rfl 29 _ _ rfl rfl rfl Tryd.underlying29 (by kernel_rfl) H.out rfl ?_
         intro V hV hgV
         have HV := Lib.hid hV
         have HG := Lib.hid hgV
         clear hV hgV))
    go_ret
    exact ⟨rfl, ⟨some ⟨b, o, none⟩, HV.out, fun e => by first | rfl | exact absurd rfl e⟩, HG.out⟩
  · have h2 : (1 : Int) < c := by omega
    go_enter Tryd.func48, Tryd.ntmps48
    go_wp2_with (first
      | (refine store_slice rfl 29 _ _ rfl rfl rfl Tryd.underlying29 (by kernel_rfl) H.out rfl ?_
         intro V hV hgV
         have HV := Lib.hid hV
         have HG := Lib.hid hgV
         clear hV hgV))
    go_ret
    exact ⟨rfl, ⟨some ⟨b, o + 1, none⟩, HV.out, fun e => by first | rfl | exact absurd rfl e⟩, HG.out⟩
theorem b_any (w : World) (fb : Nat) (kind : Int) (b o n c : Nat) (x : Bool) (vu vs vn : Value) (h : Rg.Blk w fb 96 (mC kind vu vs vn (.slice (some ⟨b, o, none⟩) (n + 1) c))) (hx : w.cell? ⟨b, o, none⟩ = some (.bool x)) (hc : n + 1 ≤ c) (hm : c ≤ maxLen) :
    Calls Tryd.prog 55 #[.pointer (some ⟨fb, 0, none⟩)] w fun e w' => e = .returned (.bool x) ∧ (∃ A', Rg.Blk w' fb 96 (mC kind vu vs vn (.slice A' n (c - 1))) ∧ (n ≠ 0 → A' = some ⟨b, o + 1, none⟩)) ∧ w.grownBy w' (some fb) := by
  have H := Lib.hid h
  have c1 := h.cell 4 (v := .slice (some ⟨b, o, none⟩) (n + 1) c) rfl
  have hI : (0 : Int) < (n : Int) + 1 := by omega
  have hI2 : (1 : Int) ≤ (n : Int) + 1 := by omega
  have hI3 : ((n + 1 : Nat) : Int) ≤ c := by omega
  unfold maxLen at hm
  clear h
  by_cases h1 : c = 1
  · subst h1
    have hn : n = 0 := by omega
    subst hn
    go_enter Tryd.func55, Tryd.ntmps55
    go_wp2_with (first
      | (refine store_slice rfl 30 _ _ rfl rfl rfl Tryd.underlying30 (by kernel_rfl) H.out rfl ?_
         intro V hV hgV
         have HV := Lib.hid hV
         have HG := Lib.hid hgV
         clear hV hgV))
    go_ret
    exact ⟨rfl, ⟨some ⟨b, o, none⟩, HV.out, fun e => by first | rfl | exact absurd rfl e⟩, HG.out⟩
  · have h2 : (1 : Int) < c := by omega
    go_enter Tryd.func55, Tryd.ntmps55
    go_wp2_with (first
      | (refine store_slice rfl 30 _ _ rfl rfl rfl Tryd.underlying30 (by kernel_rfl) H.out rfl ?_
         intro V hV hgV
         have HV := Lib.hid hV
         have HG := Lib.hid hgV
         clear hV hgV))
    go_ret
    exact ⟨rfl, ⟨some ⟨b, o + 1, none⟩, HV.out, fun e => by first | rfl | exact absurd rfl e⟩, HG.out⟩
end Go.Proofs.YtjfikbnfabdkoaaDoor.Mg
