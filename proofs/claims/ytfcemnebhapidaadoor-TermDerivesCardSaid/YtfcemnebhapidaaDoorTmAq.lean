/- The reference's Derives, over Derived's contract. -/
import Derived.Test.YtfcemnebhapidaaDoorTmAp
import Derived.Sort.Walk0
import Derived.Deep.CutBlock
import Derived.Deep.DeepCutAuto
set_option linter.unusedVariables false
set_option linter.unusedSimpArgs false
namespace Go.Proofs.YtfcemnebhapidaaDoor.Te
open Go.RowKit Go.Proofs.YtfcemnebhapidaaDoor.Ow Go.Proofs.YtfcemnebhapidaaDoor.Mp Go.Maps Go.Proofs.YtfcemnebhapidaaDoor.Sp
/-- what Derived does -/
def DerC : Prop := ∀ (w : World) (A : Option Addr) (n c : Nat) (L : List Tm) (hn : L.length = n) (hR : Rd w A (txts L)) (A2 : Option Addr) (n2 c2 : Nat) (Q : List Tm) (hn2 : Q.length = n2) (hR2 : Rd w A2 (txts Q)) (hL : ∀ t ∈ L ++ Q, t.wf ∧ t.txt.length ≤ 100) (hl : n + n2 ≤ 20), Calls Tryd.prog 38 #[.slice A n c, .slice A2 n2 c2] w fun e w' => ∃ v D M, e = .returned v ∧ Owns w' w.heap.size 9 v (txts D) ∧ Clo M ∧ (∀ t ∈ L ++ Q, t ∈ M) ∧ (∀ t ∈ M, t.wf ∧ t.txt.length ≤ 200) ∧ (∀ t, t ∈ D ↔ t ∈ M ∧ Der (· ∈ L) t) ∧ D.length ≤ 4000 ∧ Below w.heap.size w w'
theorem str_row (w : World) (s : ByteArray) : Rd (w.alloc (.cells #[.string s] 9)) (some ⟨w.heap.size, 0, none⟩) [.string s] := fun j v hv => ⟨w.heap.size, 0, rfl, by simp, by rw [Nat.zero_add]; exact (Rg.Blk.new w _ _).cell j (by simpa using hv)⟩
set_option maxRecDepth 20000 in
set_option maxHeartbeats 8000000 in
theorem RDerives_of (hD : DerC) (w : World) (A : Option Addr) (n c : Nat) (L : List Tm) (hn : L.length = n) (hR : Rd w A (txts L)) (t : Tm) (hL : ∀ u ∈ L ++ [t], u.wf ∧ u.txt.length ≤ 100) (hl : n ≤ 19) :
    Calls Tryd.prog 20 #[.slice A n c, .string (strB t.txt)] w fun e w' => e = .returned (.bool (derB L t)) ∧ Below w.heap.size w w' := by
  have HD := Lib.hid (fun W (hW : Below w.heap.size w W) => hD (W.alloc (.cells #[.string (strB t.txt)] 9)) A n c L hn ((hR.below hW).below ((Below.refl _ _).alloc (Nat.le_refl _) _)) (some ⟨W.heap.size, 0, none⟩) 1 1 [t] rfl (str_row W _) hL (by omega))
  have HTW := Lib.hid (hL t (by simp)).1
  clear hD hR hn hL
  go_enter Tryd.func20, Tryd.ntmps20
  go_wp2_with (first
    | (go_at_call 38; refine (HD.out w (Below.refl _ _)).mono ?_; rintro e w2 ⟨v, D, M, rfl, ho, hc, hm, hw, hd, hdl, hb⟩; obtain ⟨A2, c2, rfl, hr2, -⟩ := ho.form; rw [txts_len]; skip; obtain ⟨nd, hnd⟩ : ∃ nd, D.length = nd := ⟨_, rfl⟩; have hat := RAt_any w2 A2 nd c2 (D.map Tm.txt) t.txt (by rw [List.length_map]; exact hnd) hr2 (by omega); rw [idx_txt (fun u hu => (hw u ((hd u).1 hu).1).1) HTW.out] at hat; have HAT := Lib.hid hat; have HMM := Lib.hid (show t ∈ D ↔ Der (· ∈ L) t from ⟨fun h => ((hd t).1 h).2, fun h => (hd t).2 ⟨hm t (by simp), h⟩⟩); have HB2 := Lib.hid (((Below.refl w.heap.size w).alloc (Nat.le_refl _) (.cells #[.string (strB t.txt)] 9)).trans (hb.mono (by simp))); rw [hnd]; clear ho hc hm hw hd hdl hb hr2 hat hnd)
    | (go_at_call 37; refine HAT.out.mono ?_; rintro e w3 ⟨rfl, rfl⟩; skip))
  · have htd := h
    have hdb := is_der (HMM.out.1 htd)
    go_ret
    exact ⟨by rw [hdb]; rfl, HB2.out⟩
  · have htd := h
    have hdb : derB L t = false := by
      cases hb : derB L t with
      | false => rfl
      | true => exact absurd (HMM.out.2 ((derB_iff L t).1 hb)) htd
    go_ret
    exact ⟨by rw [hdb]; rfl, HB2.out⟩
end Go.Proofs.YtfcemnebhapidaaDoor.Te
