/- Chapter 14: the fixed facts; KexShares. -/
import Derived.Test.YtfaeigbfnjkojaaGreatDoorKxX
set_option linter.unusedVariables false
set_option linter.unusedSimpArgs false
namespace Go.Proofs.YtfaeigbfnjkojaaGreatDoor.Kx
open Go.RowKit Go.Proofs.YtfaeigbfnjkojaaGreatDoor.Cl
theorem wpList_wanted {P : Program} {ops : Array Oper} {rest : List Oper} {o : Oper} {a : Act} {w : World} {Q : Exit → Act → World → Prop} (hw : Region.wanted o (yielded ops a.tmps) = true)
    (h : ∀ K : Act → World → Prop, (∀ a w, wpList P ops Q rest a w → K a w) → o.wp P a w K Q) : wpList P ops Q (o :: rest) a w :=
  wpList_step fun K hK => by rw [if_pos hw]; exact h K hK
/-- an array or a struct loaded whole, under a guard -/
theorem load_blk_g {P : Program} {ops : Array Oper} {rest : List Oper} {o : Oper} {a : Act} {w : World} {Q : Exit → Act → World → Prop} (hw : Region.wanted o (yielded ops a.tmps) = true) (ty : TypeId) (x : Operand) (ho : o.op = .load ty x)
    (b : Nat) (cs : Array Value) (T : TypeId) (hx : a.eval x = .pointer (some ⟨b, 0, none⟩)) (hB : Rg.Blk w b T cs) {d : TypeDesc} (hu : P.underlying ty = some d) (hd : (match d with | .struct _ | .array _ _ => true | _ => false) = true) (hi : (P.info? ty).map (·.size) = some cs.size)
    (h : wpList P ops Q rest (a.put o.dst (.agg cs)) w) : wpList P ops Q (o :: rest) a w :=
  wpList_wanted hw fun _ hK => by
    unfold Oper.wp
    rw [RT.run_row ty x ho b hx T cs hB hu hd hi]
    exact hK _ _ h
theorem b9_len : b9.length = 32 := bytesE_len _
theorem b9_eq : bytesE (mulK (kB 9) (kB 9)) = b9 := rfl
attribute [local irreducible] mulK bytesE zero b9
set_option maxRecDepth 20000 in
set_option maxHeartbeats 2000000 in
theorem awake14 (w : World) (a : Nat → Addr) (hE : Ei.ErrsAll w a) (hY : Ei.ErrTy w) (hT : Sha.Tables w) :
    Calls Tryz.prog 7 #[] w fun e w' => e = .returned (.bool true) ∧ Below w.heap.size w w' := by
  have HE := Lib.hid hE
  have HY := Lib.hid hY
  have HT := Lib.hid hT
  have HSN := Lib.hid (fun W (h : Ei.ErrsAll W a) => show Calls Tryz.prog 8 #[.agg (#[.int .u8 1, .int .u8 0, .int .u8 0, .int .u8 0, .int .u8 0, .int .u8 0, .int .u8 0, .int .u8 0, .int .u8 0, .int .u8 0, .int .u8 0, .int .u8 0, .int .u8 0, .int .u8 0, .int .u8 0, .int .u8 0, .int .u8 0, .int .u8 0, .int .u8 0, .int .u8 0, .int .u8 0, .int .u8 0, .int .u8 0, .int .u8 0, .int .u8 0, .int .u8 0, .int .u8 0, .int .u8 0, .int .u8 0, .int .u8 0, .int .u8 0, .int .u8 0] : Array Value), .agg (#[.int .u8 0, .int .u8 0, .int .u8 0, .int .u8 0, .int .u8 0, .int .u8 0, .int .u8 0, .int .u8 0, .int .u8 0, .int .u8 0, .int .u8 0, .int .u8 0, .int .u8 0, .int .u8 0, .int .u8 0, .int .u8 0, .int .u8 0, .int .u8 0, .int .u8 0, .int .u8 0, .int .u8 0, .int .u8 0, .int .u8 0, .int .u8 0, .int .u8 0, .int .u8 0, .int .u8 0, .int .u8 0, .int .u8 0, .int .u8 0, .int .u8 0, .int .u8 0] : Array Value)] W fun e w' => ∃ fb, e = .returned (.tuple #[.agg (Cv.bytesV (kB 0)), .iface 78 (.pointer (some ⟨fb, 0, none⟩))]) ∧ Rg.Blk w' fb 82 #[.string ⟨#[107, 101, 120]⟩, .iface 183 (.pointer (some (a 10)))] ∧ Below W.heap.size W w' from by
    have := Share_no W (kB 1) (kB 0) rfl rfl a h awk1
    rw [kb_eq1] at this
    rw [← kb_eq0]
    exact this)
  obtain ⟨b, hb⟩ : ∃ l, b9 = l := ⟨_, rfl⟩
  obtain ⟨s, hs⟩ : ∃ l, bytesE (mulK (kB 1) b) = l := ⟨_, rfl⟩
  have HBL := Lib.hid (show b.length = 32 from by rw [← hb]; exact b9_len)
  have HSL := Lib.hid (show s.length = 32 from by rw [← hs]; exact bytesE_len _)
  have HSS := Lib.hid (show (Cv.bytesV s).size = 32 from by rw [Cv.bytesV_size, HSL.out])
  have HZS := Lib.hid (show (Cv.bytesV (kB 0)).size = 32 from by rw [Cv.bytesV_size]; rfl)
  have HBA := Lib.hid (fun W => show Calls Tryz.prog 17 #[.agg (#[.int .u8 9, .int .u8 0, .int .u8 0, .int .u8 0, .int .u8 0, .int .u8 0, .int .u8 0, .int .u8 0, .int .u8 0, .int .u8 0, .int .u8 0, .int .u8 0, .int .u8 0, .int .u8 0, .int .u8 0, .int .u8 0, .int .u8 0, .int .u8 0, .int .u8 0, .int .u8 0, .int .u8 0, .int .u8 0, .int .u8 0, .int .u8 0, .int .u8 0, .int .u8 0, .int .u8 0, .int .u8 0, .int .u8 0, .int .u8 0, .int .u8 0, .int .u8 0] : Array Value)] W fun e w' => e = .returned (.agg (Cv.bytesV b)) ∧ Below W.heap.size W w' from by
    have := Base_any W (kB 9) rfl
    rwa [b9_eq, hb, kb_eq9] at this)
  have HSO := Lib.hid (fun W => show Calls Tryz.prog 8 #[.agg (#[.int .u8 1, .int .u8 0, .int .u8 0, .int .u8 0, .int .u8 0, .int .u8 0, .int .u8 0, .int .u8 0, .int .u8 0, .int .u8 0, .int .u8 0, .int .u8 0, .int .u8 0, .int .u8 0, .int .u8 0, .int .u8 0, .int .u8 0, .int .u8 0, .int .u8 0, .int .u8 0, .int .u8 0, .int .u8 0, .int .u8 0, .int .u8 0, .int .u8 0, .int .u8 0, .int .u8 0, .int .u8 0, .int .u8 0, .int .u8 0, .int .u8 0, .int .u8 0] : Array Value), .agg (Cv.bytesV b)] W fun e w' => e = .returned (.tuple #[.agg (Cv.bytesV s), .nilIface]) ∧ Below W.heap.size W w' from by
    have := Share_ok W (kB 1) b rfl HBL.out (by rw [← hb]; exact awk2)
    rwa [hs, kb_eq1] at this)
  have HNE := Lib.hid (fun W : World => show (Op.equalIn 10000 22 (.agg (Cv.bytesV s)) (.agg (#[.int .u8 0, .int .u8 0, .int .u8 0, .int .u8 0, .int .u8 0, .int .u8 0, .int .u8 0, .int .u8 0, .int .u8 0, .int .u8 0, .int .u8 0, .int .u8 0, .int .u8 0, .int .u8 0, .int .u8 0, .int .u8 0, .int .u8 0, .int .u8 0, .int .u8 0, .int .u8 0, .int .u8 0, .int .u8 0, .int .u8 0, .int .u8 0, .int .u8 0, .int .u8 0, .int .u8 0, .int .u8 0, .int .u8 0, .int .u8 0, .int .u8 0, .int .u8 0] : Array Value))).run Tryz.prog W = .ok false W from by
    have := Cv.run_equalIn_bytes (P := Tryz.prog) W 22 5 32 Tryz.underlying22 Tryz.underlying5 Wi.infoU8 s (kB 0) HSL.out rfl
    rw [kb_eq0] at this
    rw [this, show (s == kB 0) = false from by
      rw [beq_eq_false_iff_ne]; intro e
      have h1 := bytes_zero _ (hs.trans e)
      rw [← hb, awk2] at h1
      cases h1])
  obtain ⟨d, hd⟩ : ∃ l : ByteArray, (⟨(derL s s s 65 40).toArray⟩ : ByteArray) = l := ⟨_, rfl⟩
  have HDS := Lib.hid (show d.size = 40 from by rw [← hd]; show (derL s s s 65 40).toArray.size = 40; simp [derL_len])
  have HDE := Lib.hid (fun W (hW : Sha.Tables W) => show Calls Tryz.prog 11 #[.agg (Cv.bytesV s), .agg (Cv.bytesV s), .agg (Cv.bytesV s), .int .u8 65, .int .i64 40] W fun e w' => e = .returned (.string d) ∧ Below W.heap.size W w' from by
    have := Derive_any W s s s HSL.out HSL.out HSL.out 65 40 (by decide) hW
    rwa [show (40 : Int).toNat = 40 from rfl, hd] at this)
  clear hE hY hT hb hs hd
  go_enter Tryz.func7, Tryz.ntmps7
  go_upto_region 2 with (first
    | (go_at_call 8; refine (HSN.out _ HE.out).mono ?_; rintro e w1 ⟨fb, rfl, hf, hb1⟩; skip; have HF1 := Lib.hid hf; have HB1 := Lib.hid hb1; clear hf hb1)
    | (refine Rg.store_fresh rfl 22 _ _ rfl (Cv.bytesV (kB 0)) _ 22 rfl rfl (by rw [HZS.out]; kernel_rfl) (by rw [HZS.out]; rfl) (Cv.bytesV_one _) ?_; intro V1 hX hbX; have HV1 := Lib.hid hX; have HBV1 := Lib.hid hbX; clear hX hbX))
  have HB := Lib.hid (show Below w.heap.size w V1 from Below.trans HB1.out (HBV1.out.mono HB1.out.size))
  have HF := Lib.hid (HF1.out.below HBV1.out HF1.out.lt)
  clear HF1 HB1 HBV1 HV1
  go_upto_region 3 with (first
    | (go_at_call 17; refine (HBA.out _).mono ?_; rintro e w2 ⟨rfl, hb1⟩; skip; have HB2 := Lib.hid hb1; clear hb1)
    | (go_at_call 8; refine (HSO.out _).mono ?_; rintro e w3 ⟨rfl, hb1⟩; skip; have HB3 := Lib.hid (HB2.out.trans (hb1.mono HB2.out.size)); clear hb1)
    | (refine Rg.store_fresh rfl 22 _ _ rfl (Cv.bytesV s) _ 22 rfl rfl (by rw [HSS.out]; kernel_rfl) (by rw [HSS.out]; rfl) (Cv.bytesV_one _) ?_; intro V3 hX hbX; have HV3 := Lib.hid hX; have HBV3 := Lib.hid hbX; clear hX hbX))
  obtain ⟨sb, hsb⟩ : ∃ n, w3.heap.size = n := ⟨_, rfl⟩
  have HV3 := Lib.hid (hsb ▸ HV3.out)
  try rw [hsb]
  have HB4 := Lib.hid (HB3.out.trans (HBV3.out.mono HB3.out.size))
  have HF := Lib.hid (HF.out.below HB4.out HF.out.lt)
  have HB := Lib.hid (HB.out.trans (HB4.out.mono HB.out.size))
  have HE := Lib.hid (HE.out.below HB.out)
  have HY := Lib.hid (HY.out.below HB.out)
  have HT := Lib.hid (tables_later HT.out HB.out)
  clear HB2 HB3 HB4 HBV3 hsb
  have hne := fun W => HNE.out W
  have hds := HDS.out
  go_wp2_with (first
    | (go_at_call 10; refine (Ei.Code_fault _ a HE.out 10 (by decide) (by decide) fb ⟨#[107, 101, 120]⟩ HF.out).mono ?_; rintro e w5 ⟨rfl, rfl⟩; skip)
    | (go_at_call 18; refine (Ei.Where_fault _ HY.out fb ⟨#[107, 101, 120]⟩ _ HF.out).mono ?_; rintro e w6 ⟨rfl, hb1⟩; skip; have HB6 := Lib.hid hb1; have HV6 := Lib.hid (HV3.out.below hb1 HV3.out.lt); clear hb1)
    | ((with_reducible refine gate_ ?_); refine load_blk_g (by rfl) 22 _ rfl sb (Cv.bytesV s) 22 rfl HV6.out Tryz.underlying22 rfl (by rw [HSS.out]; kernel_rfl) ?_; skip)
    | (go_at_call 11; refine (HDE.out _ (tables_later HT.out HB6.out)).mono ?_; rintro e w7 ⟨rfl, hb1⟩; skip; have HB7 := Lib.hid (HB6.out.trans (hb1.mono HB6.out.size)); clear hb1))
  go_ret
  exact ⟨rfl, HB.out.trans (HB7.out.mono HB.out.size)⟩
end Go.Proofs.YtfaeigbfnjkojaaGreatDoor.Kx
