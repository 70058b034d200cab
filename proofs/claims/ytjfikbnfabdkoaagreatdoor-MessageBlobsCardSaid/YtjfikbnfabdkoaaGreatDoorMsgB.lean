/- message.fields: the next field of each letter. message.names: may they be, each; and together? message.find, Fields, Name: against the table of kinds. message.Fields and Name. The reference's Fields. Messages by value: what their slices read as. The argument ref.Msg, opened. -/
import Derived.Test.YtjfikbnfabdkoaaGreatDoorWirB
import Derived.Test.YtjfikbnfabdkoaaGreatDoorMsgA
import Derived.Test.YtjfikbnfabdkoaaGreatDoorErrA
import Derived.Test.YtjfikbnfabdkoaaGreatDoorGenA
set_option linter.unusedVariables false
set_option linter.unusedSimpArgs false
namespace Go.Proofs.YtjfikbnfabdkoaaGreatDoor.Mg
open Go.RowKit Go.Proofs.YtjfikbnfabdkoaaGreatDoor.Wi Go.Proofs.YtjfikbnfabdkoaaGreatDoor.Ow Go.Proofs.YtjfikbnfabdkoaaGreatDoor.Cl
/-- a message's cells -/
def mC (kind : Int) (u s n b : Value) : Array Value := #[.int .i64 kind, u, s, n, b]
theorem u_any (w : World) (fb : Nat) (kind : Int) (b o n c : Nat) (x : Nat) (vs vn vb : Value) (h : Rg.Blk w fb 86 (mC kind (.slice (some ⟨b, o, none⟩) (n + 1) c) vs vn vb)) (hx : w.cell? ⟨b, o, none⟩ = some (.int .u32 (x : Int))) (hc : n + 1 ≤ c) (hm : c ≤ maxLen) :
    Calls Tryz.prog 39 #[.pointer (some ⟨fb, 0, none⟩)] w fun e w' => e = .returned (.int .u32 (x : Int)) ∧ (∃ A', Rg.Blk w' fb 86 (mC kind (.slice A' n (c - 1)) vs vn vb) ∧ (n ≠ 0 → A' = some ⟨b, o + 1, none⟩)) ∧ w.grownBy w' (some fb) := by
  have H := Lib.hid h
  have c1 := h.cell 1 (v := .slice (some ⟨b, o, none⟩) (n + 1) c) rfl
  have hI : (0 : Int) < (n : Int) + 1 := by omega
  have hI2 : (1 : Int) ≤ (n : Int) + 1 := by omega
  have hI3 : ((n + 1 : Nat) : Int) ≤ c := by omega
  unfold maxLen at hm
  clear h
  by_cases h1 : c = 1
  · subst h1
    have hn : n = 0 := by omega
    subst hn
    go_enter Tryz.func39, Tryz.ntmps39
    go_wp2_with (first
      | (refine store_slice rfl 43 _ _ rfl rfl rfl Tryz.underlying43 (by kernel_rfl) H.out rfl ?_
         intro V hV hgV
         have HV := Lib.hid hV
         have HG := Lib.hid hgV
         clear hV hgV))
    go_ret
    exact ⟨rfl, ⟨some ⟨b, o, none⟩, HV.out, fun e => by first | rfl | exact absurd rfl e⟩, HG.out⟩
  · have h2 : (1 : Int) < c := by omega
    go_enter Tryz.func39, Tryz.ntmps39
    go_wp2_with (first
      | (refine store_slice rfl 43 _ _ rfl rfl rfl Tryz.underlying43 (by kernel_rfl) H.out rfl ?_
         intro V hV hgV
         have HV := Lib.hid hV
         have HG := Lib.hid hgV
         clear hV hgV))
    go_ret
    exact ⟨rfl, ⟨some ⟨b, o + 1, none⟩, HV.out, fun e => by first | rfl | exact absurd rfl e⟩, HG.out⟩
theorem s_any (w : World) (fb : Nat) (kind : Int) (b o n c : Nat) (x : ByteArray) (vu vn vb : Value) (h : Rg.Blk w fb 86 (mC kind vu (.slice (some ⟨b, o, none⟩) (n + 1) c) vn vb)) (hx : w.cell? ⟨b, o, none⟩ = some (.string x)) (hc : n + 1 ≤ c) (hm : c ≤ maxLen) :
    Calls Tryz.prog 43 #[.pointer (some ⟨fb, 0, none⟩)] w fun e w' => e = .returned (.string x) ∧ (∃ A', Rg.Blk w' fb 86 (mC kind vu (.slice A' n (c - 1)) vn vb) ∧ (n ≠ 0 → A' = some ⟨b, o + 1, none⟩)) ∧ w.grownBy w' (some fb) := by
  have H := Lib.hid h
  have c1 := h.cell 2 (v := .slice (some ⟨b, o, none⟩) (n + 1) c) rfl
  have hI : (0 : Int) < (n : Int) + 1 := by omega
  have hI2 : (1 : Int) ≤ (n : Int) + 1 := by omega
  have hI3 : ((n + 1 : Nat) : Int) ≤ c := by omega
  unfold maxLen at hm
  clear h
  by_cases h1 : c = 1
  · subst h1
    have hn : n = 0 := by omega
    subst hn
    go_enter Tryz.func43, Tryz.ntmps43
    go_wp2_with (first
      | (refine store_slice rfl 36 _ _ rfl rfl rfl Tryz.underlying36 (by kernel_rfl) H.out rfl ?_
         intro V hV hgV
         have HV := Lib.hid hV
         have HG := Lib.hid hgV
         clear hV hgV))
    go_ret
    exact ⟨rfl, ⟨some ⟨b, o, none⟩, HV.out, fun e => by first | rfl | exact absurd rfl e⟩, HG.out⟩
  · have h2 : (1 : Int) < c := by omega
    go_enter Tryz.func43, Tryz.ntmps43
    go_wp2_with (first
      | (refine store_slice rfl 36 _ _ rfl rfl rfl Tryz.underlying36 (by kernel_rfl) H.out rfl ?_
         intro V hV hgV
         have HV := Lib.hid hV
         have HG := Lib.hid hgV
         clear hV hgV))
    go_ret
    exact ⟨rfl, ⟨some ⟨b, o + 1, none⟩, HV.out, fun e => by first | rfl | exact absurd rfl e⟩, HG.out⟩
theorem n_any (w : World) (fb : Nat) (kind : Int) (b o n c : Nat) (xa : Option Addr) (xn xc : Nat) (vu vs vb : Value) (h : Rg.Blk w fb 86 (mC kind vu vs (.slice (some ⟨b, o, none⟩) (n + 1) c) vb)) (hx : w.cell? ⟨b, o, none⟩ = some (.slice xa xn xc)) (hc : n + 1 ≤ c) (hm : c ≤ maxLen) :
    Calls Tryz.prog 45 #[.pointer (some ⟨fb, 0, none⟩)] w fun e w' => e = .returned (.slice xa xn xc) ∧ (∃ A', Rg.Blk w' fb 86 (mC kind vu vs (.slice A' n (c - 1)) vb) ∧ (n ≠ 0 → A' = some ⟨b, o + 1, none⟩)) ∧ w.grownBy w' (some fb) := by
  have H := Lib.hid h
  have c1 := h.cell 3 (v := .slice (some ⟨b, o, none⟩) (n + 1) c) rfl
  have hI : (0 : Int) < (n : Int) + 1 := by omega
  have hI2 : (1 : Int) ≤ (n : Int) + 1 := by omega
  have hI3 : ((n + 1 : Nat) : Int) ≤ c := by omega
  unfold maxLen at hm
  clear h
  by_cases h1 : c = 1
  · subst h1
    have hn : n = 0 := by omega
    subst hn
    go_enter Tryz.func45, Tryz.ntmps45
    go_wp2_with (first
      | (refine store_slice rfl 44 _ _ rfl rfl rfl Tryz.underlying44 (by kernel_rfl) H.out rfl ?_
         intro V hV hgV
         have HV := Lib.hid hV
         have HG := Lib.hid hgV
         clear hV hgV))
    go_ret
    exact ⟨rfl, ⟨some ⟨b, o, none⟩, HV.out, fun e => by first | rfl | exact absurd rfl e⟩, HG.out⟩
  · have h2 : (1 : Int) < c := by omega
    go_enter Tryz.func45, Tryz.ntmps45
    go_wp2_with (first
      | (refine store_slice rfl 44 _ _ rfl rfl rfl Tryz.underlying44 (by kernel_rfl) H.out rfl ?_
         intro V hV hgV
         have HV := Lib.hid hV
         have HG := Lib.hid hgV
         clear hV hgV))
    go_ret
    exact ⟨rfl, ⟨some ⟨b, o + 1, none⟩, HV.out, fun e => by first | rfl | exact absurd rfl e⟩, HG.out⟩
theorem b_any (w : World) (fb : Nat) (kind : Int) (b o n c : Nat) (x : Bool) (vu vs vn : Value) (h : Rg.Blk w fb 86 (mC kind vu vs vn (.slice (some ⟨b, o, none⟩) (n + 1) c))) (hx : w.cell? ⟨b, o, none⟩ = some (.bool x)) (hc : n + 1 ≤ c) (hm : c ≤ maxLen) :
    Calls Tryz.prog 41 #[.pointer (some ⟨fb, 0, none⟩)] w fun e w' => e = .returned (.bool x) ∧ (∃ A', Rg.Blk w' fb 86 (mC kind vu vs vn (.slice A' n (c - 1))) ∧ (n ≠ 0 → A' = some ⟨b, o + 1, none⟩)) ∧ w.grownBy w' (some fb) := by
  have H := Lib.hid h
  have c1 := h.cell 4 (v := .slice (some ⟨b, o, none⟩) (n + 1) c) rfl
  have hI : (0 : Int) < (n : Int) + 1 := by omega
  have hI2 : (1 : Int) ≤ (n : Int) + 1 := by omega
  have hI3 : ((n + 1 : Nat) : Int) ≤ c := by omega
  unfold maxLen at hm
  clear h
  by_cases h1 : c = 1
  · subst h1
    have hn : n = 0 := by omega
    subst hn
    go_enter Tryz.func41, Tryz.ntmps41
    go_wp2_with (first
      | (refine store_slice rfl 45 _ _ rfl rfl rfl Tryz.underlying45 (by kernel_rfl) H.out rfl ?_
         intro V hV hgV
         have HV := Lib.hid hV
         have HG := Lib.hid hgV
         clear hV hgV))
    go_ret
    exact ⟨rfl, ⟨some ⟨b, o, none⟩, HV.out, fun e => by first | rfl | exact absurd rfl e⟩, HG.out⟩
  · have h2 : (1 : Int) < c := by omega
    go_enter Tryz.func41, Tryz.ntmps41
    go_wp2_with (first
      | (refine store_slice rfl 45 _ _ rfl rfl rfl Tryz.underlying45 (by kernel_rfl) H.out rfl ?_
         intro V hV hgV
         have HV := Lib.hid hV
         have HG := Lib.hid hgV
         clear hV hgV))
    go_ret
    exact ⟨rfl, ⟨some ⟨b, o + 1, none⟩, HV.out, fun e => by first | rfl | exact absurd rfl e⟩, HG.out⟩
end Go.Proofs.YtjfikbnfabdkoaaGreatDoor.Mg
namespace Go.Proofs.YtjfikbnfabdkoaaGreatDoor.Mg
open Go.RowKit Go.Proofs.YtjfikbnfabdkoaaGreatDoor.Wi Go.Proofs.YtjfikbnfabdkoaaGreatDoor.Ow Go.Proofs.YtjfikbnfabdkoaaGreatDoor.Be
set_option maxRecDepth 20000 in
set_option maxHeartbeats 1000000 in
theorem names_any (w : World) (A : Option Addr) (n c : Nat) (xs : List ByteArray) (hn : xs.length = n) (hc : n ≤ c) (hN : n ≤ 1000000) (hR : Rd w A (xs.map Value.string)) (hx : ∀ x ∈ xs, x.size ≤ 9223372036854775807) (hj : (joinC xs).length ≤ 1000000) :
    Calls Tryz.prog 63 #[.slice A n c] w fun e w' => e = .returned (.tuple #[.bool (xs.all okN), .bool (!(xs.all okN) || decide ((joinC xs).length ≤ 4096))]) ∧ Below w.heap.size w w' := by
  have HN := Lib.hid hn
  have HR := Lib.hid hR
  have HX := Lib.hid hx
  have HJ : Hid (Calls Tryz.prog 66 #[.slice A n c, .string ⟨#[44]⟩] w fun e w' => e = .returned (.string ⟨(joinC xs).toArray⟩) ∧ Below w.heap.size w w') := Lib.hid (by
    subst hn
    by_cases h0 : xs = []
    · subst h0
      refine (Tryz.strings_Join_none A c ⟨#[44]⟩ w).mono ?_
      rintro e w' ⟨rfl, rfl⟩
      exact ⟨rfl, Below.refl _ _⟩
    · obtain ⟨bk, o, rfl, hlt, hx⟩ := hR.place (by rw [List.length_map]; exact List.length_pos_iff.2 h0)
      exact Tryz.strings_Join bk o c xs ⟨#[44]⟩ w (fun j x hj => hx j _ (by rw [List.getElem?_map, hj]; rfl)) hlt (by omega) hc (by show (joinC xs).length ≤ _; omega))
  obtain ⟨t, ht⟩ : ∃ t, mkS (joinC xs) = t := ⟨_, rfl⟩
  have hts : t.size = (joinC xs).length := by rw [← ht, mkS_size]
  have HJ2 : Hid (Calls Tryz.prog 66 #[.slice A n c, .string ⟨#[44]⟩] w fun e w' => e = .returned (.string t) ∧ Below w.heap.size w w') := Lib.hid (by rw [← ht]; exact HJ.out)
  have HTS := Lib.hid hts
  clear hn hR hx hj ht hts HJ
  go_enter Tryz.func63, Tryz.ntmps63
  go_wp2_with fail
  go_loop [8] (fun i => ∃ k : Nat, k ≤ n ∧ i = .int .i64 k ∧ (xs.take k).all okN = true) (fun i => n - (intOf i).toNat)
  case atStart => exact ⟨0, Nat.zero_le _, rfl, rfl⟩
  case round =>
    obtain ⟨k, hk, rfl, hall⟩ := hrel
    have HAL := Lib.hid hall
    clear hall
    by_cases hkn : k < n
    · have hd : decide (k < n) = true := by simp; exact hkn
      have hik : (k : Int) < n := by omega
      have hx : xs[k]? = some (xs[k]'(by rw [HN.out]; exact hkn)) := List.getElem?_eq_getElem _
      have hxs := HX.out _ (List.getElem_mem (l := xs) (n := k) (by rw [HN.out]; exact hkn))
      obtain ⟨b, o, rfl, _, hcell⟩ := HR.out.at_ (j := k) (by rw [List.length_map, HN.out]; exact hkn)
      rw [List.getElem_map] at hcell
      generalize xs[k]'(by rw [HN.out]; exact hkn) = x at *
      have HXK := Lib.hid hx
      have HXS := Lib.hid hxs
      clear hx hxs
      cases hok : okN x
      · have HB := Lib.hid (all_bad xs k x HXK.out hok)
        have HOK := Lib.hid (show nameB x.data.toList = false from hok)
        clear hok
        go_wp2_with (go_at_call 61; refine (Name_any _ x HXS.out).mono ?_; rintro e w3 ⟨rfl, rfl⟩; skip; rw [HOK.out])
        go_ret2
        exact ⟨by rw [HB.out]; rfl, Below.refl _ _⟩
      · have HT := Lib.hid (all_take xs k x HXK.out HAL.out hok)
        have HOK := Lib.hid (show nameB x.data.toList = true from hok)
        clear hok
        go_wp2_with (go_at_call 61; refine (Name_any _ x HXS.out).mono ?_; rintro e w3 ⟨rfl, rfl⟩; skip; rw [HOK.out])
        go_round
        case rel => exact ⟨k + 1, by omega, by go_num, HT.out⟩
        case measure => simp [intOf]; omega
    · obtain rfl : k = n := by omega
      have hd : decide (k < k) = false := by simp
      have HA := Lib.hid (show xs.all okN = true by have := HAL.out; rwa [List.take_of_length_le (Nat.le_of_eq HN.out)] at this)
      go_wp2_with (go_at_call 66; refine HJ2.out.mono ?_; rintro e w3 ⟨rfl, hb3⟩; skip; have HB3 := Lib.hid hb3; clear hb3)
      go_ret2
      refine ⟨?_, HB3.out⟩
      rw [HA.out, ← HTS.out]
      simp
      omega
end Go.Proofs.YtjfikbnfabdkoaaGreatDoor.Mg
namespace Go.Proofs.YtjfikbnfabdkoaaGreatDoor.Mg
open Go.RowKit Go.Proofs.YtjfikbnfabdkoaaGreatDoor.Wi Go.Proofs.YtjfikbnfabdkoaaGreatDoor.Ow Go.Proofs.YtjfikbnfabdkoaaGreatDoor.Be
theorem run_index_agg {P : Program} (w : World) (xT E : TypeId) (n sz : Nat) (cs : Array Value) (k : Nat) (d : TypeDesc) (hu : P.underlying xT = some (.array n E)) (hi : (P.info? E).map (·.size) = some sz) (hE : P.underlying E = some d) (hd : (match d with | .struct _ | .array _ _ => true | _ => false) = true) (hk : k < n) :
    (Instr.index xT (.agg cs) (.int .i64 k)).run P w = .ok (.agg (cs.extract (k * sz) (k * sz + sz))) w := by
  cases hq : P.info? E with
  | none => simp [hq] at hi
  | some i =>
    have hs : i.size = sz := by simpa [hq] using hi
    have hagg : (isAgg E).run P w = .ok true w := by
      unfold isAgg
      rw [Sem.run_bind, run_underlying hE w]
      cases d <;> simp_all
    unfold Instr.index
    simp [asIntOf, Sem.run_bind, run_underlying hu, sizeOf, typeInfo, hq, hs, part, hagg, hk]
def rowC (r : Nat × List UInt8 × List UInt8) : List Value := [.int .i64 (r.1 : Int), .string (mkS r.2.1), .string (mkS r.2.2)]
@[irreducible] def rowsV : Array Value := (rowsL.flatMap rowC).toArray
theorem rowsV_size : rowsV.size = 87 := by unfold rowsV; rfl
theorem rowsV_at : ∀ (k : Nat), k < 29 → ∃ r, rowsL[k]? = some r ∧ rowsV.extract (k * 3) (k * 3 + 3) = #[.int .i64 (r.1 : Int), .string (mkS r.2.1), .string (mkS r.2.2)]
  | 0, _ => ⟨_, rfl, by unfold rowsV; rfl⟩
  | 1, _ => ⟨_, rfl, by unfold rowsV; rfl⟩
  | 2, _ => ⟨_, rfl, by unfold rowsV; rfl⟩
  | 3, _ => ⟨_, rfl, by unfold rowsV; rfl⟩
  | 4, _ => ⟨_, rfl, by unfold rowsV; rfl⟩
  | 5, _ => ⟨_, rfl, by unfold rowsV; rfl⟩
  | 6, _ => ⟨_, rfl, by unfold rowsV; rfl⟩
  | 7, _ => ⟨_, rfl, by unfold rowsV; rfl⟩
  | 8, _ => ⟨_, rfl, by unfold rowsV; rfl⟩
  | 9, _ => ⟨_, rfl, by unfold rowsV; rfl⟩
  | 10, _ => ⟨_, rfl, by unfold rowsV; rfl⟩
  | 11, _ => ⟨_, rfl, by unfold rowsV; rfl⟩
  | 12, _ => ⟨_, rfl, by unfold rowsV; rfl⟩
  | 13, _ => ⟨_, rfl, by unfold rowsV; rfl⟩
  | 14, _ => ⟨_, rfl, by unfold rowsV; rfl⟩
  | 15, _ => ⟨_, rfl, by unfold rowsV; rfl⟩
  | 16, _ => ⟨_, rfl, by unfold rowsV; rfl⟩
  | 17, _ => ⟨_, rfl, by unfold rowsV; rfl⟩
  | 18, _ => ⟨_, rfl, by unfold rowsV; rfl⟩
  | 19, _ => ⟨_, rfl, by unfold rowsV; rfl⟩
  | 20, _ => ⟨_, rfl, by unfold rowsV; rfl⟩
  | 21, _ => ⟨_, rfl, by unfold rowsV; rfl⟩
  | 22, _ => ⟨_, rfl, by unfold rowsV; rfl⟩
  | 23, _ => ⟨_, rfl, by unfold rowsV; rfl⟩
  | 24, _ => ⟨_, rfl, by unfold rowsV; rfl⟩
  | 25, _ => ⟨_, rfl, by unfold rowsV; rfl⟩
  | 26, _ => ⟨_, rfl, by unfold rowsV; rfl⟩
  | 27, _ => ⟨_, rfl, by unfold rowsV; rfl⟩
  | 28, _ => ⟨_, rfl, by unfold rowsV; rfl⟩
  | n + 29, h => absurd h (by omega)
/-- the table of kinds lies in memory -/
def TabR (w : World) : Prop := ∀ (j : Nat) (v : Value), rowsV[j]? = some v → w.cell? ⟨21, j, none⟩ = some v
theorem TabR.below {w w' : World} (h : TabR w) (hb : Below w.heap.size w w') : TabR w' := fun j v hv => (hb.cell (p := ⟨21, j, none⟩) (World.block_lt_of_cell? _ _ (h j v hv))).trans (h j v hv)
theorem TabR.alloc {w : World} (h : TabR w) (o : Obj) : TabR (w.alloc o) := h.below ((Below.refl _ _).alloc (Nat.le_refl _) o)
/-- the errors that a message's looks give -/
structure ErrsM (w : World) (a : Nat → Addr) : Prop where
  cell : ∀ k, (k < 4 ∨ k = 19) → w.cell? ⟨Ei.errG.getD k 0, 0, none⟩ = some (.iface 162 (.pointer (some (a (k + 1)))))
theorem ErrsM.below {w w' : World} {a : Nat → Addr} (h : ErrsM w a) (hb : Below w.heap.size w w') : ErrsM w' a := ⟨fun k hk => (hb.cell (World.block_lt_of_cell? w _ (h.cell k hk))).trans (h.cell k hk)⟩
theorem ErrsM.of {w : World} {a : Nat → Addr} (h : Ei.ErrsAll w a) : ErrsM w a := ⟨fun k hk => h.cell k (by omega)⟩
def rowZ (k : Int) : Array Value := match rowOf k with
  | some r => #[.int .i64 (r.1 : Int), .string (mkS r.2.1), .string (mkS r.2.2)]
  | none => #[.int .i64 0, .string ⟨#[]⟩, .string ⟨#[]⟩]
theorem rowOf_drop (k : Int) (j : Nat) (r : Nat × List UInt8 × List UInt8) (hr : rowsL[j]? = some r) (h : rowOf k = (rowsL.drop j).find? fun r => decide ((r.1 : Int) = k)) :
    ((r.1 : Int) = k → rowOf k = some r) ∧ ((r.1 : Int) ≠ k → rowOf k = (rowsL.drop (j + 1)).find? fun r => decide ((r.1 : Int) = k)) := by
  have hl : j < rowsL.length := (List.getElem?_eq_some_iff.1 hr).1
  have he : rowsL.drop j = r :: rowsL.drop (j + 1) := by
    rw [List.drop_eq_getElem_cons hl]
    congr 1
    exact (List.getElem?_eq_some_iff.1 hr).2
  rw [he, List.find?_cons] at h
  refine ⟨fun hk => ?_, fun hk => ?_⟩
  · rw [h]; simp [hk]
  · rw [h]; simp [hk]
set_option maxRecDepth 20000 in
set_option maxHeartbeats 1000000 in
theorem find_any (w : World) (k : Int) (hT : TabR w) :
    Calls Tryz.prog 48 #[.int .i64 k] w fun e w' => e = .returned (.tuple #[.agg (rowZ k), .bool (isK k)]) ∧ Below w.heap.size w w' := by
  have HT := Lib.hid hT
  clear hT
  go_enter Tryz.func48, Tryz.ntmps48
  go_wp2_with (refine Cv.load_cells rfl 126 _ rfl 21 0 rfl rowsV _ (fun j v hv => by rw [Nat.zero_add]; exact HT.out.alloc _ j v hv) Tryz.underlying126 rfl (by rw [rowsV_size]; kernel_rfl) ?_; skip)
  have hB2 : Rg.Blk (w.alloc (.cells #[.int .i64 0, .string ⟨#[]⟩, .string ⟨#[]⟩] 92)) w.heap.size 92 #[.int .i64 0, .string ⟨#[]⟩, .string ⟨#[]⟩] := Rg.Blk.new w _ _
  have hXW : Below w.heap.size w (w.alloc (.cells #[.int .i64 0, .string ⟨#[]⟩, .string ⟨#[]⟩] 92)) := (Below.refl _ _).alloc (Nat.le_refl _) _
  have hXZ : (w.alloc (.cells #[.int .i64 0, .string ⟨#[]⟩, .string ⟨#[]⟩] 92)).heap.size = w.heap.size + 1 := by simp
  generalize w.alloc (.cells #[.int .i64 0, .string ⟨#[]⟩, .string ⟨#[]⟩] 92) = X at *
  have HB2 := Lib.hid hB2
  have HXW := Lib.hid hXW
  have HXZ := Lib.hid hXZ
  clear hB2 hXW hXZ
  go_loopw [7] (fun i wr => ∃ j : Nat, j ≤ 29 ∧ i = .int .i64 j ∧ (rowOf k = (rowsL.drop j).find? fun r => decide ((r.1 : Int) = k)) ∧ Below X.heap.size X wr) (fun i _ => 30 - (intOf i).toNat)
  case atStart => exact ⟨0, by decide, rfl, rfl, Below.refl _ _⟩
  case round =>
    obtain ⟨j, hj, rfl, hrow, hb⟩ := hrel
    have HROW := Lib.hid hrow
    have HB := Lib.hid hb
    have hb2 := HB2.out.below hb HB2.out.lt
    have p0 := hb2.cell 0 (v := .int .i64 0) rfl
    have p1 := hb2.cell 1 (v := .string ⟨#[]⟩) rfl
    have p2 := hb2.cell 2 (v := .string ⟨#[]⟩) rfl
    have g0 := hb2.frozen 0
    have g1 := hb2.frozen 1
    have g2 := hb2.frozen 2
    have hz : w.heap.size < wr.heap.size := by have h1 := hb.size; have h2 := HXZ.out; omega
    have hzn : ¬ w.heap.size = wr.heap.size := by omega
    have HWR := Lib.hid (HXW.out.trans (hb.mono HXW.out.size))
    clear hrow hb hb2
    by_cases hj29 : j < 29
    · obtain ⟨r, hr, hex⟩ := rowsV_at j hj29
      have hidx := run_index_agg (P := Tryz.prog) wr 126 92 29 3 rowsV j _ Tryz.underlying126 (by kernel_rfl) Tryz.underlying92 rfl hj29
      rw [hex] at hidx
      have hways := rowOf_drop k j r hr HROW.out
      have hij : (j : Int) < 29 := by omega
      have hij0 : (0 : Int) ≤ j := by omega
      clear hex hr
      obtain ⟨kd, nm, lt⟩ := r
      simp only at hidx hways
      by_cases hk : (kd : Int) = k
      · have HF := Lib.hid (hways.1 hk)
        have hd : ((kd : Int) == k) = true := by simpa using hk
        have HK := Lib.hid hk
        clear hk hways
        go_wp2_with fail
        refine bodyPost_ret (v := .tuple #[.agg #[.int .i64 (kd : Int), .string (mkS nm), .string (mkS lt)], .bool true]) (by simp [results, Tryz.results48, go_sem, p0, p1, p2, hz, hzn]) rfl ?_
        refine ⟨?_, ?_⟩
        · unfold rowZ isK; rw [HF.out]; rfl
        refine Below.trans HWR.out ?_
        repeat (first | exact Below.refl _ _ | apply Below.drew | (refine Below.setCell ?_ ?_ _; rotate_left; focus (first | (simp; done) | (simp; omega) | omega)) | (refine Below.alloc ?_ ?_ _; rotate_left; focus (first | (simp; done) | (simp; omega) | omega)))
      · have HF := Lib.hid (hways.2 hk)
        have hd : ((kd : Int) == k) = false := by simpa using hk
        clear hk hways
        go_wp2_with fail
        go_roundw
        case rel =>
          have h9 : Below X.heap.size X _ := HB.out.alloc HB.out.size (.cells #[.int .i64 (kd : Int), .string (mkS nm), .string (mkS lt)] 92)
          first
            | exact ⟨j + 1, by omega, by go_num, HF.out, h9⟩
            | ((repeat apply Exists.intro); refine ⟨?_, rfl⟩; exact ⟨j + 1, by omega, by go_num, HF.out, h9⟩)
        case measure => simp [intOf]; omega
    · obtain rfl : j = 29 := by omega
      have HF := Lib.hid (show rowOf k = none from HROW.out)
      go_wp2_with fail
      refine bodyPost_ret (v := .tuple #[.agg #[.int .i64 0, .string ⟨#[]⟩, .string ⟨#[]⟩], .bool false]) (by simp [results, Tryz.results48, go_sem, p0, p1, p2, hz, hzn]) rfl ?_
      refine ⟨?_, ?_⟩
      · unfold rowZ isK; rw [HF.out]; rfl
      refine Below.trans HWR.out ?_
      repeat (first | exact Below.refl _ _ | apply Below.drew | (refine Below.setCell ?_ ?_ _; rotate_left; focus (first | (simp; done) | (simp; omega) | omega)) | (refine Below.alloc ?_ ?_ _; rotate_left; focus (first | (simp; done) | (simp; omega) | omega)))
end Go.Proofs.YtjfikbnfabdkoaaGreatDoor.Mg
namespace Go.Proofs.YtjfikbnfabdkoaaGreatDoor.Mg
open Go.RowKit Go.Proofs.YtjfikbnfabdkoaaGreatDoor.Wi Go.Proofs.YtjfikbnfabdkoaaGreatDoor.Ow Go.Proofs.YtjfikbnfabdkoaaGreatDoor.Be
theorem rowZ_eq (k : Int) : ∃ kd : Int, rowZ k = #[.int .i64 kd, .string (mkS (nam k)), .string (mkS (ltr k))] := by
  unfold rowZ nam ltr
  cases h : rowOf k with
  | none => exact ⟨0, rfl⟩
  | some r => exact ⟨r.1, rfl⟩
theorem Fields_any (w : World) (k : Int) (hT : TabR w) :
    Calls Tryz.prog 28 #[.int .i64 k] w fun e w' => e = .returned (.tuple #[.string (mkS (ltr k)), .bool (isK k)]) ∧ Below w.heap.size w w' := by
  obtain ⟨kd, hz⟩ := rowZ_eq k
  have HF := Lib.hid (find_any w k hT)
  rw [hz] at HF
  clear hz hT
  generalize mkS (ltr k) = lt at *
  generalize mkS (nam k) = nm at *
  generalize isK k = is at *
  go_enter Tryz.func28, Tryz.ntmps28
  go_wp2_with (go_at_call 48; refine HF.out.mono ?_; rintro e w1 ⟨rfl, hb1⟩; skip; have HB1 := Lib.hid hb1; clear hb1)
  go_ret2
  exact ⟨rfl, HB1.out.alloc HB1.out.size _⟩
theorem Name_of (w : World) (k : Int) (hT : TabR w) :
    Calls Tryz.prog 17 #[.int .i64 k] w fun e w' => e = .returned (.string (mkS (nam k))) ∧ Below w.heap.size w w' := by
  obtain ⟨kd, hz⟩ := rowZ_eq k
  have HF := Lib.hid (find_any w k hT)
  rw [hz] at HF
  clear hz hT
  generalize mkS (ltr k) = lt at *
  generalize mkS (nam k) = nm at *
  generalize isK k = is at *
  go_enter Tryz.func17, Tryz.ntmps17
  go_wp2_with (go_at_call 48; refine HF.out.mono ?_; rintro e w1 ⟨rfl, hb1⟩; skip; have HB1 := Lib.hid hb1; clear hb1)
  go_ret
  exact ⟨rfl, HB1.out.alloc HB1.out.size _⟩
end Go.Proofs.YtjfikbnfabdkoaaGreatDoor.Mg
namespace Go.Proofs.YtjfikbnfabdkoaaGreatDoor.Mg
open Go.RowKit Go.Proofs.YtjfikbnfabdkoaaGreatDoor.Wi Go.Proofs.YtjfikbnfabdkoaaGreatDoor.Ow Go.Proofs.YtjfikbnfabdkoaaGreatDoor.Be
theorem rowOf_none (k : Int) (h : ∀ r ∈ rowsL, (r.1 : Int) ≠ k) : rowOf k = none := by
  unfold rowOf
  rw [List.find?_eq_none]
  intro r hr
  simpa using h r hr
end Go.Proofs.YtjfikbnfabdkoaaGreatDoor.Mg
namespace Go.Proofs.YtjfikbnfabdkoaaGreatDoor.Mg
open Go.RowKit Go.Proofs.YtjfikbnfabdkoaaGreatDoor.Wi Go.Proofs.YtjfikbnfabdkoaaGreatDoor.Ow Go.Proofs.YtjfikbnfabdkoaaGreatDoor.Be
/-- v is a slice that reads as xs -/
def SL (w : World) (v : Value) (xs : List Value) : Prop := ∃ (A : Option Addr) (n c : Nat), v = .slice A n c ∧ xs.length = n ∧ Rd w A xs ∧ n ≤ c ∧ c ≤ maxLen
theorem SL.below {w w' : World} {v : Value} {xs : List Value} (h : SL w v xs) (hb : Below w.heap.size w w') : SL w' v xs := by
  obtain ⟨A, n, c, h1, h2, h3, h4⟩ := h
  exact ⟨A, n, c, h1, h2, h3.below hb, h4⟩
theorem SL.nil (w : World) : SL w (.slice none 0 0) [] := ⟨none, 0, 0, rfl, rfl, Rd.nil _ _, Nat.le_refl _, Nat.zero_le _⟩
theorem SL.owns {w : World} {B : Nat} {E : TypeId} {v : Value} {xs : List Value} (h : Owns w B E v xs) {A : Option Addr} {n c : Nat} (hv : v = .slice A n c) (hc : c ≤ maxLen) : SL w v xs := by
  obtain ⟨A', c', h1, h2, h3⟩ := h.form
  rw [hv] at h1
  injection h1 with e1 e2 e3
  subst e1 e2 e3
  exact ⟨A, _, _, hv, rfl, h2, h3, hc⟩
/-- what is left behind the first -/
theorem Rd.tail {w : World} {b o : Nat} {x : Value} {xs : List Value} (h : Rd w (some ⟨b, o, none⟩) (x :: xs)) {A' : Option Addr} {n : Nat} (hn : xs.length = n) (hA : n ≠ 0 → A' = some ⟨b, o + 1, none⟩) : Rd w A' xs := fun j y hy => by
  have hj : j < xs.length := (List.getElem?_eq_some_iff.1 hy).1
  rw [hA (by omega)]
  obtain ⟨b', o', e, hl, hc⟩ := h (j + 1) y (by simpa using hy)
  injection e with e; injection e with e1 e2 e3
  subst e1 e2
  exact ⟨b, o + 1, rfl, hl, by rw [show o + 1 + j = o + (j + 1) by omega]; exact hc⟩
/-- the first, and its place -/
theorem SL.first {w : World} {v : Value} {x : Value} {xs : List Value} (h : SL w v (x :: xs)) : ∃ b o c, v = .slice (some ⟨b, o, none⟩) (xs.length + 1) c ∧ w.cell? ⟨b, o, none⟩ = some x ∧ b < w.heap.size ∧ xs.length + 1 ≤ c ∧ c ≤ maxLen ∧
    ∀ A', (xs.length ≠ 0 → A' = some ⟨b, o + 1, none⟩) → SL w (.slice A' xs.length (c - 1)) xs := by
  obtain ⟨A, n, c, rfl, rfl, h3, h4, h5⟩ := h
  obtain ⟨b, o, rfl, hl, hc⟩ := h3 0 x rfl
  simp only [List.length_cons] at *
  exact ⟨b, o, c, rfl, hc, hl, h4, h5, fun A' hA => ⟨A', _, _, rfl, rfl, Rd.tail h3 rfl hA, by omega, by omega⟩⟩
/-- a slice of lists of texts -/
def SLN (w : World) (v : Value) (ns : List (List ByteArray)) : Prop := ∃ vs, SL w v vs ∧ vs.length = ns.length ∧ ∀ (j : Nat) (l : List ByteArray), ns[j]? = some l → ∃ u, vs[j]? = some u ∧ SL w u (l.map Value.string)
theorem SLN.below {w w' : World} {v : Value} {ns : List (List ByteArray)} (h : SLN w v ns) (hb : Below w.heap.size w w') : SLN w' v ns := by
  obtain ⟨vs, h1, h2, h3⟩ := h
  exact ⟨vs, h1.below hb, h2, fun j l hl => by obtain ⟨u, a, b⟩ := h3 j l hl; exact ⟨u, a, SL.below b hb⟩⟩
theorem SLN.nil (w : World) : SLN w (.slice none 0 0) [] := ⟨[], SL.nil w, rfl, fun j l h => by simp at h⟩
theorem SLN.first {w : World} {v : Value} {x : List ByteArray} {xs : List (List ByteArray)} (h : SLN w v (x :: xs)) : ∃ b o c u, v = .slice (some ⟨b, o, none⟩) (xs.length + 1) c ∧ w.cell? ⟨b, o, none⟩ = some u ∧ SL w u (x.map Value.string) ∧ b < w.heap.size ∧ xs.length + 1 ≤ c ∧ c ≤ maxLen ∧
    ∀ A', (xs.length ≠ 0 → A' = some ⟨b, o + 1, none⟩) → SLN w (.slice A' xs.length (c - 1)) xs := by
  obtain ⟨vs, h1, h2, h3⟩ := h
  cases vs with
  | nil => simp at h2
  | cons u vs =>
    obtain ⟨u', e, hu⟩ := h3 0 x rfl
    simp only [List.getElem?_cons_zero, Option.some.injEq] at e
    subst e
    simp only [List.length_cons, Nat.add_right_cancel_iff] at h2
    obtain ⟨b, o, c, hv, hc, hl, h4, h5, h6⟩ := h1.first
    rw [h2] at hv h4 h6
    exact ⟨b, o, c, u, hv, hc, hu, hl, h4, h5, fun A' hA => ⟨vs, h6 A' hA, h2, fun j l hl => by simpa using h3 (j + 1) l (by simpa using hl)⟩⟩
/-- a message's four slices -/
structure IsMsg (w : World) (m : Msg) (vu vs vn vb : Value) : Prop where
  u : SL w vu (m.u.map fun (x : Nat) => .int .u32 (x : Int))
  s : SL w vs (m.s.map Value.string)
  n : SLN w vn m.n
  b : SL w vb (m.b.map Value.bool)
theorem IsMsg.below {w w' : World} {m : Msg} {vu vs vn vb : Value} (h : IsMsg w m vu vs vn vb) (hb : Below w.heap.size w w') : IsMsg w' m vu vs vn vb := ⟨h.u.below hb, h.s.below hb, h.n.below hb, h.b.below hb⟩
/-- numbers and lists of a size that the walks bear -/
structure Fit (m : Msg) : Prop where
  u : ∀ x ∈ m.u, x < 4294967296
  s : ∀ x ∈ m.s, x.size ≤ 1000000
  n : ∀ l ∈ m.n, l.length ≤ 100000 ∧ (joinC l).length ≤ 1000000 ∧ ∀ x ∈ l, x.size ≤ 1000000
end Go.Proofs.YtjfikbnfabdkoaaGreatDoor.Mg
namespace Go.Proofs.YtjfikbnfabdkoaaGreatDoor.Mg
open Go.RowKit Go.ChangeShapes Go.WideShapes Go.Proofs.YtjfikbnfabdkoaaGreatDoor.Ow Go.Proofs.YtjfikbnfabdkoaaGreatDoor.Og
variable {H : Type} {enc : TypeId × Value → H} {W : World}
theorem open_SL {t e : TypeId} {v : Value} (ht : Tryz.prog.underlying t = some (.slice e)) (hc : Tryz.prog.cellsOf e = 1) (h : Reads enc Tryz.prog W t v) : ∃ xs, SL W v xs ∧ ∀ x ∈ xs, Reads enc Tryz.prog W e x := by
  obtain ⟨A, n, c, xs, h1, h2, h3, h4, h5, h6⟩ := open_sl ht hc h
  exact ⟨xs, ⟨A, n, c, h1, h2, h3, h4, h5⟩, h6⟩
set_option maxRecDepth 100000 in
theorem open_msg {r : Reach} {b0 : Nat} {v : Value} {d : DataW H} {ps : List MemPlace} (hval : Value.okWide Tryz.prog W r b0 52 v)
    (h : DataW.Trod enc Tryz.prog W 0 (fun _ => true) true 52 v d ps) : ∃ (m : Msg) (vu vs vn vb : Value), v = .agg (mC m.kind vu vs vn vb) ∧ IsMsg W m vu vs vn vb ∧ ∀ x ∈ m.u, x < 4294967296 := by
  obtain ⟨v0, vu, vs, vn, vb, rfl, h0, h1, h2, h3, h4⟩ := open_agg5 Tryz.underlying52 (by kernel_rfl) (by kernel_rfl) hval h
  obtain ⟨k, rfl, _⟩ := open_int1 Tryz.underlying3 h0
  obtain ⟨xu, hu, hu2⟩ := open_SL Tryz.underlying43 (by kernel_rfl) h1
  obtain ⟨xs, hs, hs2⟩ := open_SL Tryz.underlying36 (by kernel_rfl) h2
  obtain ⟨xn, hn, hn2⟩ := open_SL Tryz.underlying44 (by kernel_rfl) h3
  obtain ⟨xb, hb, hb2⟩ := open_SL Tryz.underlying45 (by kernel_rfl) h4
  obtain ⟨us, rfl, hus⟩ := map_of (f := fun (x : Nat) => Value.int .u32 (x : Int)) (p := fun x => x < 4294967296) (fun x hx => by
    obtain ⟨n, rfl, hw⟩ := open_int1 Tryz.underlying42 (hu2 x hx)
    have hb := bounds_u32 hw
    exact ⟨n.toNat, by rw [Int.toNat_of_nonneg (by omega)], by omega⟩)
  obtain ⟨ss, rfl, _⟩ := map_of (f := Value.string) (p := fun _ => True) (fun x hx => by
    obtain ⟨s, rfl, _⟩ := open_str1 Tryz.underlying9 (hs2 x hx)
    exact ⟨s, rfl, trivial⟩)
  obtain ⟨bs, rfl, _⟩ := map_of (f := Value.bool) (p := fun _ => True) (fun x hx => by
    obtain ⟨s, rfl⟩ := open_bool1 Tryz.underlying4 (hb2 x hx)
    exact ⟨s, rfl, trivial⟩)
  have each : ∀ i, i < xn.length → ∃ l : List ByteArray, ∃ u, xn[i]? = some u ∧ SL W u (l.map Value.string) := fun i hi => by
    obtain ⟨ys, hy, hy2⟩ := open_SL Tryz.underlying36 (by kernel_rfl) (hn2 xn[i] (List.getElem_mem hi))
    obtain ⟨l, rfl, _⟩ := map_of (f := Value.string) (p := fun _ => True) (fun x hx => by
      obtain ⟨s, rfl, _⟩ := open_str1 Tryz.underlying9 (hy2 x hx)
      exact ⟨s, rfl, trivial⟩)
    exact ⟨l, _, List.getElem?_eq_getElem hi, hy⟩
  obtain ⟨ns, hnl, hnq⟩ := list_of xn.length each
  exact ⟨⟨k, us, ss, ns, bs⟩, vu, vs, vn, vb, rfl, ⟨hu, hs, ⟨xn, hn, hnl.symm, hnq⟩, hb⟩, hus⟩
end Go.Proofs.YtjfikbnfabdkoaaGreatDoor.Mg
