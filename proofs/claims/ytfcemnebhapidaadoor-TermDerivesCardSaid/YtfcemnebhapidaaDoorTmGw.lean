/- The law TermGrows. -/
import Derived.Test.YtfcemnebhapidaaDoorTmFr
set_option linter.unusedVariables false
set_option linter.unusedSimpArgs false
namespace Go.Proofs.YtfcemnebhapidaaDoor.Te
open Go.RowKit Go.Proofs.YtfcemnebhapidaaDoor.Ow Go.Proofs.YtfcemnebhapidaaDoor.Mp Go.Maps
theorem Derives_zero (w : World) (kb : Nat) : Calls Tryd.prog 15 #[.pointer (some ⟨kb, 0, none⟩), .agg #[.string ⟨#[]⟩, .string ⟨#[]⟩, .slice none 0 0]] w fun e w' => e = .returned (.bool false) ∧ Below w.heap.size w w' := by
  go_enter Tryd.func15, Tryd.ntmps15
  go_upto_region 1 with (refine Rg.box_fresh rfl 31 _ rfl #[.string ⟨#[]⟩, .string ⟨#[]⟩, .slice none 0 0] rfl ?_; intro X hX hbX hnX; have HX := Lib.hid hX; have HBX := Lib.hid hbX; clear hX hbX hnX)
  have c1 := HX.out.cell 1 (v := .string ⟨#[]⟩) rfl
  go_wp2
  go_ret
  exact ⟨rfl, HBX.out⟩
/-- all but the two blocks of a know stands: so do the terms -/
theorem rd_upd {w w' : World} {A : Option Addr} {l : List (Tm × Value)} {kb mb T : Nat} {cs : Array Value} (h : Rd w A (tcs l)) (hu : Sp.Upd w w' [kb, mb]) (hB : Rg.Blk w kb T cs) (hs : cs.size < 3) (hm : ∃ es clock, w.heap[mb]? = some (.map es clock)) : Rd w' A (tcs l) := by
  cases l with
  | nil => rw [tcs_nil]; exact Rd.nil _ _
  | cons x l =>
    have hlen : (tcs (x :: l)).length = (x :: l).length * 3 := tcs_length _
    have h3 : 2 < (tcs (x :: l)).length := by rw [hlen, List.length_cons]; omega
    obtain ⟨b3, o3, e3, _, hc3⟩ := h 2 _ (List.getElem?_eq_getElem h3)
    have hk : b3 ≠ kb := by
      rintro rfl
      rw [blk_cell hB] at hc3
      have := (Array.getElem?_eq_some_iff.1 hc3).1
      omega
    have hmb : b3 ≠ mb := by
      rintro rfl
      obtain ⟨es, clock, hm⟩ := hm
      unfold World.cell? at hc3
      simp [hm] at hc3
    intro j v hv
    obtain ⟨b, o, e, hl, hc⟩ := h j v hv
    rw [e3] at e
    injection e with e
    injection e with e1 e2
    subst e1 e2
    refine ⟨b3, o3, e3, Nat.lt_of_lt_of_le hl hu.size, ?_⟩
    have := hu.block b3 hl (by simp; omega)
    unfold World.cell? at hc ⊢
    simp only [this]
    exact hc
theorem TP.upd {w w' : World} {t : Tm} {v : Value} {kb mb T : Nat} {cs : Array Value} (h : TP w t v) (hu : Sp.Upd w w' [kb, mb]) (hB : Rg.Blk w kb T cs) (hs : cs.size < 3) (hm : ∃ es clock, w.heap[mb]? = some (.map es clock)) : TP w' t v :=
  h.keep fun A xs ⟨l, e⟩ h => by subst e; exact rd_upd h hu hB hs hm
/-- a term or none, as a value -/
def OV (w : World) (o : Option Tm) (k x : ByteArray) (A : Option Addr) (n c : Nat) : Prop :=
  match o with
  | some t => k = strB t.knd ∧ x = strB t.txt ∧ n = t.prt.length ∧ TP w t (.slice A n c) ∧ t.wf ∧ t.txt.length ≤ 90
  | none => k = ⟨#[]⟩ ∧ x = ⟨#[]⟩ ∧ A = none ∧ n = 0 ∧ c = 0
theorem OV.below {w w' : World} {o : Option Tm} {k x : ByteArray} {A : Option Addr} {n c : Nat} (h : OV w o k x A n c) (hb : Below w.heap.size w w') : OV w' o k x A n c := by
  cases o with
  | none => exact h
  | some t => exact ⟨h.1, h.2.1, h.2.2.1, h.2.2.2.1.below hb, h.2.2.2.2⟩
theorem OV.upd {w w0 w' : World} {o : Option Tm} {k x : ByteArray} {A : Option Addr} {n c kb mb : Nat} {L : List Tm} (h : OV w o k x A n c) (hk : KS w0 w kb mb L) (hu : Sp.Upd w w' [kb, mb]) : OV w' o k x A n c := by
  cases o with
  | none => exact h
  | some t =>
    obtain ⟨K, h1, _⟩ := hk.out
    exact ⟨h.1, h.2.1, h.2.2.1, h.2.2.2.1.upd hu h1.1 (by simp) h1.isMap, h.2.2.2.2⟩
theorem blk_upd2 {w w' : World} {kb mb b T : Nat} {cs : Array Value} (h : Rg.Blk w b T cs) (hu : Sp.Upd w w' [kb, mb]) (hn : b ∉ [kb, mb]) : Rg.Blk w' b T cs := by
  have hl := h.lt
  unfold Rg.Blk at *
  rw [hu.block b hl hn]; exact h
theorem KS.plen {w W : World} {kb mb : Nat} {L : List Tm} (h : KS w W kb mb L) (hn : L.length ≤ 512) : (ptsL L).length ≤ 500000 := by
  obtain ⟨K, _, hk⟩ := h.out
  rw [← hk.pts, prts_len]
  exact h.klen hn hk
theorem KS.kn {w W : World} {kb mb : Nat} {L : List Tm} (h : KS w W kb mb L) : ∃ K, Kn L K := by
  obtain ⟨K, _, hk⟩ := h.out
  exact ⟨K, hk⟩
theorem pts_at {w : World} {A : Option Addr} {l : List (List UInt8)} (h : Rd w A (l.map encStr)) {j : Nat} {y : List UInt8} (hy : l[j]? = some y) : ∃ b o, A = some ⟨b, o, none⟩ ∧ w.cell? ⟨b, o + j, none⟩ = some (.string (strB y)) := by
  obtain ⟨b, o, e, _, hc⟩ := h j (encStr y) (by rw [List.getElem?_map, hy]; rfl)
  exact ⟨b, o, e, hc⟩
noncomputable def dOf (L : List Tm) (o : Option Tm) : Bool := match o with
  | some t => derB L t
  | none => false
theorem dOf_same {L L' : List Tm} (hl : ∀ t, t ∈ L ↔ t ∈ L') (o : Option Tm) : dOf L o = dOf L' o := by
  cases o with
  | none => rfl
  | some t => exact der_same hl t
theorem dOf_mono {L L' : List Tm} (hl : ∀ t ∈ L, t ∈ L') {o : Option Tm} (h : dOf L o = true) : dOf L' o = true := by
  cases o with
  | none => exact h
  | some t => exact der_mono hl h
theorem OfV (w : World) (s : ByteArray) (a : Nat → Addr) (hE : ErrsT w a) :
    Calls Tryd.prog 13 #[.string (strB (cutB s))] w fun e w' => ∃ k x A n c, e = .returned (.agg #[.string k, .string x, .slice A n c]) ∧ OV w' (parse (cutB s)) k x A n c ∧ Below w.heap.size w w' := by
  cases hp : parse (cutB s) with
  | none =>
    refine (Of_none w (cutB s) (by have := cutB_len s; omega) hp a hE).mono ?_
    rintro e w' ⟨rfl, hb⟩
    exact ⟨_, _, _, _, _, rfl, ⟨rfl, rfl, rfl, rfl, rfl⟩, hb⟩
  | some t =>
    refine (Of_some w (cutB s) t (by have := cutB_len s; omega) hp a hE).mono ?_
    rintro e w' ⟨A, c, rfl, hf, hb⟩
    exact ⟨_, _, _, _, _, rfl, ⟨rfl, rfl, rfl, hf.tp, (parse_iff.1 hp).wf, by rw [parse_len hp]; exact cutB_len s⟩, hb⟩
theorem DerivesV (w W : World) (kb mb : Nat) (L : List Tm) (o : Option Tm) (k x : ByteArray) (A : Option Addr) (n c : Nat) (h : KS w W kb mb L) (hv : OV W o k x A n c) :
    Calls Tryd.prog 15 #[.pointer (some ⟨kb, 0, none⟩), .agg #[.string k, .string x, .slice A n c]] W fun e w' => e = .returned (.bool (dOf L o)) ∧ Below W.heap.size W w' := by
  cases o with
  | none => obtain ⟨rfl, rfl, rfl, rfl, rfl⟩ := hv; exact Derives_zero W kb
  | some t => obtain ⟨rfl, rfl, rfl, h1, h2, h3⟩ := hv; exact Derives_KS w W kb mb L t _ h h2 (by omega) h1
theorem LearnV (w W : World) (kb mb : Nat) (L : List Tm) (o : Option Tm) (k x : ByteArray) (A : Option Addr) (n c : Nat) (h : KS w W kb mb L) (hL : L.length < 512) (hv : OV W o k x A n c) (a : Nat → Addr) (hE : ErrsT w a) :
    Calls Tryd.prog 16 #[.pointer (some ⟨kb, 0, none⟩), .agg #[.string k, .string x, .slice A n c]] W fun e w' => (∃ v, e = .returned v) ∧ KS w w' kb mb (L ++ o.toList) ∧ Sp.Upd W w' [kb, mb] := by
  cases o with
  | none =>
    obtain ⟨rfl, rfl, rfl, rfl, rfl⟩ := hv
    refine (LearnZero_KS w W kb mb L h a hE).mono ?_
    rintro e w' ⟨rfl, hb⟩
    exact ⟨⟨_, rfl⟩, by simpa using h.below hb, ⟨hb.os, hb.tape, hb.output, hb.size, fun k hk _ => hb.block k hk⟩⟩
  | some t =>
    obtain ⟨rfl, rfl, rfl, h1, h2, h3⟩ := hv
    refine (Learn_KS w W kb mb L t _ h h2 (by omega) h1 hL).mono ?_
    rintro e w' ⟨rfl, hk, hu⟩
    exact ⟨⟨_, rfl⟩, hk, hu⟩
/-- each twice -/
def dup (L : List Tm) : List Tm := L.flatMap fun t => [t, t]
theorem dup_mem {L : List Tm} {t : Tm} : t ∈ dup L ↔ t ∈ L := by unfold dup; rw [List.mem_flatMap]; exact ⟨fun ⟨u, h1, h2⟩ => by simp at h2; rw [h2]; exact h1, fun h => ⟨t, h, by simp⟩⟩
theorem dup_len (L : List Tm) : (dup L).length = 2 * L.length := by
  unfold dup
  induction L with
  | nil => rfl
  | cons t L ih => rw [List.flatMap_cons, List.length_append, ih]; simp; omega
def bk (L : List Tm) (m : Nat) : List Tm := dup (L.drop m).reverse
theorem bk_top (L : List Tm) : bk L L.length = [] := by unfold bk dup; simp
theorem bk_step {L : List Tm} {m : Nat} {t : Tm} (h : L[m]? = some t) : bk L m = bk L (m + 1) ++ [t, t] := by
  obtain ⟨hk, e⟩ := List.getElem?_eq_some_iff.1 h
  unfold bk dup
  rw [List.drop_eq_getElem_cons hk, e, List.reverse_cons, List.flatMap_append]
  simp
theorem bk_len (L : List Tm) (m : Nat) : (bk L m).length ≤ 2 * L.length := by unfold bk; rw [dup_len, List.length_reverse, List.length_drop]; omega
theorem bk_mem {L : List Tm} {t : Tm} : t ∈ bk L 0 ↔ t ∈ L := by unfold bk; rw [dup_mem, List.mem_reverse, List.drop_zero]
theorem txts_two (M : List Tm) (t : Tm) : txts M ++ [.string (strB t.txt), .string (strB t.txt)] = txts (M ++ [t, t]) := by unfold txts; rw [List.map_append, List.map_append]; rfl
/-- texts as they are written are learned as they are -/
theorem lrn_txts {M : List Tm} {k : Nat} (hk : M.length ≤ k) (h : ∀ t ∈ M, t.wf ∧ t.txt.length ≤ 90) : lrn (M.map fun t => strB t.txt) k = M := by
  unfold lrn
  rw [List.take_of_length_le (by rw [List.length_map]; exact hk)]
  clear hk
  induction M with
  | nil => rfl
  | cons t M ih =>
    have h1 := h t (by simp)
    have hc : cutB (strB t.txt) = t.txt := by
      unfold cutB
      rw [ext_take]
      show List.take 90 t.txt = t.txt
      rw [List.take_of_length_le h1.2]
    rw [List.map_cons, List.filterMap_cons, hc, parse_iff.2 (Prs.self h1.1), ih (fun u hu => h u (by simp [hu]))]
theorem txts_strs (M : List Tm) : txts M = (M.map fun t => strB t.txt).map Value.string := by unfold txts; rw [List.map_map, List.map_map]; rfl
theorem owns_upd {w w' : World} {B kb mb : Nat} {A : Option Addr} {n c : Nat} {E : TypeId} {xs : List Value} (h : Owns w B E (.slice A n c) xs) (hu : Sp.Upd w w' [kb, mb]) (h1 : kb < B) (h2 : mb < B) : Owns w' B E (.slice A n c) xs := own_upd h hu h1 h2
set_option maxRecDepth 20000 in
set_option maxHeartbeats 8000000 in
theorem law_TermGrows (w : World) (A : Option Addr) (c : Nat) (xs : List ByteArray) (hR : Rd w A (xs.map Value.string)) (hc : xs.length ≤ c) (hm : c ≤ maxLen) (S1 S2 : ByteArray) (a : Nat → Addr) (hE : ErrsT w a) : Calls Tryd.prog 3 #[.slice A xs.length c, .string S1, .string S2] w fun e w' => e = .returned (.bool true) ∧ Below w.heap.size w w' := by
  have HAW := Lib.hid (awake31 w a hE)
  have HE := Lib.hid hE
  have HLN := Lib.hid (fun W (hW : Below w.heap.size w W) => learn_any W A c xs xs.length rfl (hR.below hW) 10 (by decide) (by simp only [maxLen] at hm; omega) a (hE.below hW))
  have HC1 := Lib.hid (show ∀ W : World, Calls Tryd.prog 14 #[.string S1, .int .i64 90] W fun e w' => e = .returned (.string (strB (cutB S1))) ∧ W = w' from fun W => Cut31 W S1 90 (by decide))
  have HC2 := Lib.hid (show ∀ W : World, Calls Tryd.prog 14 #[.string S2, .int .i64 90] W fun e w' => e = .returned (.string (strB (cutB S2))) ∧ W = w' from fun W => Cut31 W S2 90 (by decide))
  obtain ⟨L, hL⟩ : ∃ L, lrn xs 10 = L := ⟨_, rfl⟩
  have HLE := Lib.hid hL
  have HLL := Lib.hid (show L.length ≤ 10 from hL ▸ lrn_len xs 10)
  have HFIT := Lib.hid (show ∀ t ∈ L, t.wf ∧ t.txt.length ≤ 90 from hL ▸ lrn_fit)
  obtain ⟨n, hn⟩ : ∃ n, L.length = n := ⟨_, rfl⟩
  have HN := Lib.hid hn
  have hn10 : n ≤ 10 := hn ▸ HLL.out
  clear hE hR hc hm hL hn
  go_enter Tryd.func3, Tryd.ntmps3
  go_wp2_with (first
    | (go_at_call 9; refine HAW.out.mono ?_; rintro e w1 ⟨rfl, hb1⟩; skip; have HB := Lib.hid hb1; clear hb1)
    | (go_at_call 10; refine (HLN.out _ HB.out).mono ?_; rintro e w2 ⟨kb, mb, v2, rfl, hk, ho⟩; rw [HLE.out] at hk ho; obtain ⟨A2, c2, rfl, hr, _⟩ := ho.form; rw [txts_len, HN.out]; skip; have HK := Lib.hid (ks_from hk HB.out); have HR := Lib.hid hr; clear hk ho hr HB))
  go_loopw [9, 10] (fun v i wr => ∃ m : Nat, m ≤ n ∧ i = .int .i64 ((m : Int) - 1) ∧ Owns wr w2.heap.size 9 v (txts (bk L m)) ∧ Below w2.heap.size w2 wr) (fun _ i _ => (intOf i + 1).toNat)
  case atStart => exact ⟨n, Nat.le_refl _, rfl, by rw [← HN.out, bk_top]; exact Owns.nil _ _ _, Below.refl _ _⟩
  case round =>
    obtain ⟨m, hmn, rfl, ho, hb2⟩ := hrel
    have HR2 := HR
    have HKw := Lib.hid (HK.out.below hb2)
    have HRw := Lib.hid (HR.out.below hb2)
    clear HK HR
    have HK := HKw
    have HR := HRw
    clear HKw HRw
    have HO := Lib.hid ho
    have HSZ := Lib.hid hb2.size
    have HB2 := Lib.hid hb2
    clear ho hb2
    cases m with
    | succ m =>
      have hi : ((m + 1 : Nat) : Int) - 1 = (m : Int) := by omega
      rw [hi]
      have hd : decide ((0 : Int) ≤ (m : Int)) = true := by simp
      have hmi : (m : Int) < n := by omega
      have hmi0 : (0 : Int) ≤ m := by omega
      obtain ⟨t, ht⟩ : ∃ t, L[m]? = some t := ⟨_, List.getElem?_eq_getElem (by rw [HN.out]; omega)⟩
      obtain ⟨b0, o0, rfl, -, -⟩ := HR2.out m (.string (strB t.txt)) (by unfold txts; rw [List.getElem?_map, List.getElem?_map, ht]; rfl)
      have HRM := Lib.hid (show (txts L)[m]? = some (.string (strB t.txt)) by unfold txts; rw [List.getElem?_map, List.getElem?_map, ht]; rfl)
      have HT := Lib.hid ht
      have HBS := Lib.hid (bk_step ht)
      have HTL := Lib.hid (show ((txts (bk L (m + 1))).length + 2) * 16 ≤ 140737488355328 by rw [txts_len]; have h1 := bk_len L (m + 1); have h2 := HLL.out; omega)
      clear ht hi
      go_upto_region 10 with fail
      refine RL.start (fun W => Below w2.heap.size w2 W) (by kernel_rfl) (Below.drew HB2.out) ?_
      refine' RL.takeV (i := 0) (v := _) rfl (by kernel_rfl) (by kernel_rfl) (by kernel_rfl) (fun _ _ _ h => h) (by rfl) ?hk1 ?_
      case hk1 => (intro W hSW; go_simp; try with_reducible rfl)
      (try simp only [Act.put, List.setIfInBounds_toArray, List.set_cons_zero, List.set_cons_succ])
      refine' RL.takeV (i := 1) (v := _) rfl (by kernel_rfl) (by kernel_rfl) (by kernel_rfl) (fun _ _ _ h => h) (by rfl) ?hk2 ?_
      case hk2 => (intro W hSW; go_simp; try with_reducible rfl)
      (try simp only [Act.put, List.setIfInBounds_toArray, List.set_cons_zero, List.set_cons_succ])
      refine' RL.takeV (i := 2) (v := _) rfl (by kernel_rfl) (by kernel_rfl) (by kernel_rfl) (fun _ _ _ h => h) (by rfl) ?hk3 ?_
      case hk3 => (intro W hSW; go_simp; try with_reducible rfl)
      (try simp only [Act.put, List.setIfInBounds_toArray, List.set_cons_zero, List.set_cons_succ])
      refine' RL.takeV (i := 3) (v := _) rfl (by kernel_rfl) (by kernel_rfl) (by kernel_rfl) (fun _ _ _ h => h) (by rfl) ?hk4 ?_
      case hk4 => (intro W hSW; go_simp; try with_reducible rfl)
      (try simp only [Act.put, List.setIfInBounds_toArray, List.set_cons_zero, List.set_cons_succ])
      refine' RL.takeV (i := 4) (v := _) rfl (by kernel_rfl) (by kernel_rfl) (by kernel_rfl) (fun _ _ _ h => h) (by rfl) ?hk5 ?_
      case hk5 => (intro W hSW; have k1 : W.cell? ⟨b0, o0 + m, none⟩ = some (.string (strB t.txt)) := rd_cell (HR2.out.below hSW) m _ HRM.out; go_simp; try with_reducible rfl)
      (try simp only [Act.put, List.setIfInBounds_toArray, List.set_cons_zero, List.set_cons_succ])
      refine' RL.takeV (i := 5) (v := _) rfl (by kernel_rfl) (by kernel_rfl) (by kernel_rfl) (fun _ _ _ h => h) (by rfl) ?hk6 ?_
      case hk6 => (intro W hSW; go_simp; try with_reducible rfl)
      (try simp only [Act.put, List.setIfInBounds_toArray, List.set_cons_zero, List.set_cons_succ])
      refine' RL.takeV (i := 6) (v := _) rfl (by kernel_rfl) (by kernel_rfl) (by kernel_rfl) (fun _ _ _ h => h) (by rfl) ?hk7 ?_
      case hk7 => (intro W hSW; go_simp; try with_reducible rfl)
      (try simp only [Act.put, List.setIfInBounds_toArray, List.set_cons_zero, List.set_cons_succ])
      refine' RL.takeV (i := 7) (v := _) rfl (by kernel_rfl) (by kernel_rfl) (by kernel_rfl) (fun _ _ _ h => h) (by rfl) ?hk8 ?_
      case hk8 => (intro W hSW; go_simp; try with_reducible rfl)
      (try simp only [Act.put, List.setIfInBounds_toArray, List.set_cons_zero, List.set_cons_succ])
      refine' RL.takeV (i := 8) (v := _) rfl (by kernel_rfl) (by kernel_rfl) (by kernel_rfl) (fun _ _ _ h => h) (by rfl) ?hk9 ?_
      case hk9 => (intro W hSW; have k1 : W.cell? ⟨b0, o0 + m, none⟩ = some (.string (strB t.txt)) := rd_cell (HR2.out.below hSW) m _ HRM.out; go_simp; try with_reducible rfl)
      (try simp only [Act.put, List.setIfInBounds_toArray, List.set_cons_zero, List.set_cons_succ])
      refine RL.stepK (i := 9) rfl (by kernel_rfl) (by rfl) (fun wa hlwa hswa K hK => ?_)
      go_simp
      refine hK.out _ _ (Below.alloc hswa hswa.size _) ?_
      clear hK
      (try simp only [Act.put, List.setIfInBounds_toArray, List.set_cons_zero, List.set_cons_succ])
      have HLA := Lib.hid hlwa
      have HSA := Lib.hid (show Below w2.heap.size w2 wa from hswa)
      refine RL.stepK (i := 10) rfl (by kernel_rfl) (by rfl) (fun wb hlwb hswb K hK => ?_)
      have HOW := Lib.hid ((((HO.out.below (Below.drew (Below.refl _ _))).below HLA.out).alloc (.cells #[.string (strB t.txt), .string (strB t.txt)] 9)).below hlwb)
      have HRY := Lib.hid (show Rd wb (some ⟨wa.heap.size, 0, none⟩) [.string (strB t.txt), .string (strB t.txt)] from Rd.below (w := wa.alloc (.cells #[.string (strB t.txt), .string (strB t.txt)] 9)) (fun j v hv => ⟨wa.heap.size, 0, rfl, by simp, by rw [Nat.zero_add]; exact (Rg.Blk.new wa _ _).cell j (by simpa using hv)⟩) hlwb)
      refine RT.app1_op _ _ 22 rfl Tryd.underlying22 infoS rfl (by decide) HOW.out rfl (show [Value.string (strB t.txt), .string (strB t.txt)].length = 2 from rfl) rfl HRY.out (by intro u hu; simp at hu; subst hu; rfl) HTL.out (Below.size hswb) ?_
      intro v6 w6 h2 h3 h4
      rw [txts_two, ← HBS.out] at h2
      have HO6 := Lib.hid h2
      refine hK.out _ _ (show Below w2.heap.size w2 w6 from Below.grown hswb h3 (Below.size hswb) (fun k hk => (HOW.out.lt k hk).1)) ?_
      clear hK h2 h3 h4
      (try simp only [Act.put, List.setIfInBounds_toArray, List.set_cons_zero, List.set_cons_succ])
      refine' RL.takeV (i := 11) (v := _) rfl (by kernel_rfl) (by kernel_rfl) (by kernel_rfl) (fun _ _ _ h => h) (by rfl) ?hk10 ?_
      case hk10 => (intro W hSW; go_simp; try with_reducible rfl)
      (try simp only [Act.put, List.setIfInBounds_toArray, List.set_cons_zero, List.set_cons_succ])
      refine RL.done (by kernel_rfl) (fun wd hlwd hswd => ?_)
      have HO7 := Lib.hid (HO6.out.below hlwd)
      have HB7 := Lib.hid (show Below w2.heap.size w2 wd from hswd)
      clear hlwd hswd hswb hlwb hswa hlwa
      go_wp2
      go_roundw
      case rel =>
        have REL := Lib.hid (show ∃ m' : Nat, m' ≤ n ∧ Value.int .i64 ((m : Int) - 1) = .int .i64 ((m' : Int) - 1) ∧ Owns wd w2.heap.size 9 v6 (txts (bk L m')) ∧ Below w2.heap.size w2 wd from ⟨m, by omega, rfl, HO7.out, HB7.out⟩)
        first
          | exact REL.out
          | ((repeat apply Exists.intro); refine ⟨?_, rfl⟩; exact REL.out)
      case measure => (first | (simp [intOf]; done) | (simp [intOf]; omega))
    | zero =>
      have hi : ((0 : Nat) : Int) - 1 = -1 := by omega
      rw [hi]
      obtain ⟨Ab, cb, hbv, hbr, _⟩ := HO.out.form
      subst hbv
      have HBR := Lib.hid hbr
      have HM2 := Lib.hid (show bk L 0 = bk L 0 from rfl)
      obtain ⟨M, hM⟩ : ∃ M, bk L 0 = M := ⟨_, rfl⟩
      have HMM := Lib.hid (show ∀ t, t ∈ M ↔ t ∈ L from fun t => hM ▸ bk_mem)
      have HML := Lib.hid (show M.length ≤ 20 from by rw [← hM]; have h1 := bk_len L 0; have h2 := HLL.out; omega)
      rw [hM] at HBR
      have HJN := Lib.hid (show ∀ W, Below wr.heap.size wr W → Calls Tryd.prog 10 #[.slice Ab (txts M).length cb, .int .i64 20] W fun e w' => ∃ kb' mb' v', e = .returned (.tuple #[.pointer (some ⟨kb', 0, none⟩), v']) ∧ KS W w' kb' mb' M from fun W hW => by
        have hfit : ∀ t ∈ M, t.wf ∧ t.txt.length ≤ 90 := fun t ht => HFIT.out t ((HMM.out t).1 ht)
        have h := learn_any W Ab cb (M.map fun t => strB t.txt) (txts M).length (by rw [List.length_map, txts_len]) (by rw [← txts_strs]; exact HBR.out.below hW) 20 (by decide) (by rw [txts_len]; have := HML.out; omega) a (HE.out.below (HK.out.bel.trans (hW.mono HK.out.bel.size)))
        rw [lrn_txts HML.out hfit] at h
        refine h.mono ?_
        rintro e w' ⟨kb', mb', v', rfl, hk, _⟩
        exact ⟨kb', mb', v', rfl, hk⟩)
      rw [hM]
      obtain ⟨o2, ho2⟩ : ∃ o, parse (cutB S2) = o := ⟨_, rfl⟩
      obtain ⟨o1, ho1⟩ : ∃ o, parse (cutB S1) = o := ⟨_, rfl⟩
      have HO2 := Lib.hid (fun W (hW : Below w.heap.size w W) => ho2 ▸ OfV W S2 a (HE.out.below hW))
      have HO1 := Lib.hid (fun W (hW : Below w.heap.size w W) => ho1 ▸ OfV W S1 a (HE.out.below hW))
      have HPS := Lib.hid (show ∀ K, ∀ w' W', KS w W' K w' M → True from fun _ _ _ _ => trivial)
      clear HPS HM2 hM hi hbr HLN HO HB2 HSZ ho1 ho2 HR
      generalize (txts M).length = bl at *
      have HL2 := Lib.hid (show (L ++ o1.toList).length ≤ 11 by rw [List.length_append]; have h1 := HLL.out; cases o1 <;> simp <;> omega)
      obtain ⟨np, hnp⟩ : ∃ np, (ptsL L).length = np := ⟨_, rfl⟩
      obtain ⟨nq, hnq⟩ : ∃ nq, (ptsL (L ++ o1.toList)).length = nq := ⟨_, rfl⟩
      have HPN := Lib.hid hnp
      have HQN := Lib.hid hnq
      have HPL := Lib.hid (show ((ptsL L).map encStr).length = np by rw [List.length_map]; exact hnp)
      have HQL := Lib.hid (show ((ptsL (L ++ o1.toList)).map encStr).length = nq by rw [List.length_map]; exact hnq)
      have HKN := Lib.hid HK.out.kn
      have hpb : np ≤ 500000 := hnp ▸ HK.out.plen (by have := HLL.out; omega)
      have HPB := Lib.hid hpb
      clear hnp hnq
      cases hwas : dOf L o2
      all_goals
        have HWAS := Lib.hid hwas
        have tok1 := True.intro
        clear hwas
        go_wp2_with (first
          | (go_at_call 10; have _t := tok1; refine (HJN.out _ (Below.refl _ _)).mono ?_; rintro e w3 ⟨jb, nb, v3, rfl, hk⟩; skip; have HJ := Lib.hid (ks_from hk HK.out.bel); have HKy := Lib.hid (HK.out.below hk.bel); clear HK; have HK := HKy; clear HKy; have HPM := Lib.hid (pts_same HJ.out.kn HK.out.kn HMM.out); clear hk; have tok2 := True.intro; clear _t tok1)
          | (go_at_call 12; have _t := tok2; refine (Parts_KS w _ jb nb M HJ.out (by have := HML.out; omega)).mono ?_; rintro e w4 ⟨v4, rfl, ho, hb⟩; rw [HPM.out] at ho; obtain ⟨A4, c4, rfl, hr4, _⟩ := ho.form; rw [HPL.out]; skip; have HP1 := Lib.hid hr4; have HKy := Lib.hid (HK.out.below hb); clear HK; have HK := HKy; clear HKy; have HJy := Lib.hid (HJ.out.below hb); clear HJ; have HJ := HJy; clear HJy; clear ho hb hr4; have tok3 := True.intro; clear _t tok2)
          | (go_at_call 12; have _t := tok3; refine (Parts_KS w _ kb mb L HK.out (by have := HLL.out; omega)).mono ?_; rintro e w4b ⟨v4b, rfl, ho, hb⟩; obtain ⟨A4b, c4b, rfl, hr4, _⟩ := ho.form; rw [HPL.out]; skip; have HP2 := Lib.hid hr4; have HKy := Lib.hid (HK.out.below hb); clear HK; have HK := HKy; clear HKy; have HJy := Lib.hid (HJ.out.below hb); clear HJ; have HJ := HJy; clear HJy; have HP1y := Lib.hid (HP1.out.below hb); clear HP1; have HP1 := HP1y; clear HP1y; clear ho hb hr4; have tok4 := True.intro; clear _t tok3)
          | (go_at_call 11; refine (same_any _ _ _ _ _ _ _ (ptsL L) (ptsL L) HPN.out HPN.out HP1.out HP2.out (by rw [HPN.out]; have := HPB.out; omega)).mono ?_; rintro e w4c ⟨rfl, hb⟩; rw [decide_eq_true rfl]; skip; have HKy := Lib.hid (HK.out.below hb); clear HK; have HK := HKy; clear HKy; have HJy := Lib.hid (HJ.out.below hb); clear HJ; have HJ := HJy; clear HJy; clear hb)
          | (go_at_call 14; have _t := tok4; refine (HC2.out _).mono ?_; rintro e w4d ⟨rfl, rfl⟩; skip; have tok5 := True.intro; clear _t tok4)
          | (go_at_call 13; have _t := tok5; refine (HO2.out _ HK.out.bel).mono ?_; rintro e w5 ⟨k5, x5, A5, n5, c5, rfl, hv, hb⟩; skip; have HV := Lib.hid hv; have HKy := Lib.hid (HK.out.below hb); clear HK; have HK := HKy; clear HKy; have HJy := Lib.hid (HJ.out.below hb); clear HJ; have HJ := HJy; clear HJy; clear hb hv; have tok6 := True.intro; clear _t tok5)
          | (refine Rg.store_fresh rfl 31 _ _ rfl #[.string k5, .string x5, .slice A5 n5 c5] _ 31 rfl rfl (by kernel_rfl) rfl (by simp [Value.oneCell']) ?_; intro X0 hX hbX; have HX := Lib.hid hX; have HAB := Lib.hid (show w5.heap.size ∉ [kb, mb] from by have h := ksblk HK.out; simp; omega); have HKy := Lib.hid (HK.out.below hbX); clear HK; have HK := HKy; clear HKy; have HJy := Lib.hid (HJ.out.below hbX); clear HJ; have HJ := HJy; clear HJy; have HVy := Lib.hid (HV.out.below hbX); clear HV; have HV := HVy; clear HVy; have x0 := HX.out.cell 0 (v := .string k5) rfl; have x1 := HX.out.cell 1 (v := .string x5) rfl; have x2 := HX.out.cell 2 (v := .slice A5 n5 c5) rfl; clear hX hbX)
          | (refine Cv.load_cells rfl 31 _ rfl w5.heap.size 0 rfl #[.string k5, .string x5, .slice A5 n5 c5] _ (fun j v hv => by rw [Nat.zero_add]; exact HX.out.cell j hv) Tryd.underlying31 rfl (by kernel_rfl) ?_; skip)
          | (go_at_call 15; have _t := tok6; refine (DerivesV w _ kb mb L o2 _ _ _ _ _ HK.out HV.out).mono ?_; rintro e w6 ⟨rfl, hb⟩; rw [HWAS.out]; skip; have HKy := Lib.hid (HK.out.below hb); clear HK; have HK := HKy; clear HKy; have HJy := Lib.hid (HJ.out.below hb); clear HJ; have HJ := HJy; clear HJy; have HVy := Lib.hid (HV.out.below hb); clear HV; have HV := HVy; clear HVy; have HXy := Lib.hid (HX.out.below hb HX.out.lt); clear HX; have HX := HXy; clear HXy; have x0 := HX.out.cell 0 (v := .string k5) rfl; have x1 := HX.out.cell 1 (v := .string x5) rfl; have x2 := HX.out.cell 2 (v := .slice A5 n5 c5) rfl; clear hb; have tok7 := True.intro; clear _t tok6)
          | (go_at_call 15; have _t := tok7; refine (DerivesV w _ jb nb M o2 _ _ _ _ _ HJ.out HV.out).mono ?_; rintro e w7 ⟨rfl, hb⟩; rw [dOf_same HMM.out, HWAS.out]; skip; have HKy := Lib.hid (HK.out.below hb); clear HK; have HK := HKy; clear HKy; have HVy := Lib.hid (HV.out.below hb); clear HV; have HV := HVy; clear HVy; have HXy := Lib.hid (HX.out.below hb HX.out.lt); clear HX; have HX := HXy; clear HXy; have x0 := HX.out.cell 0 (v := .string k5) rfl; have x1 := HX.out.cell 1 (v := .string x5) rfl; have x2 := HX.out.cell 2 (v := .slice A5 n5 c5) rfl; have HKL := Lib.hid (ksblk HK.out); clear hb HJ; have tok8 := True.intro; clear _t tok7)
          | (go_at_call 12; have _t := tok8; refine (Parts_KS w _ kb mb L HK.out (by have := HLL.out; omega)).mono ?_; rintro e w8 ⟨v8, rfl, ho, hb⟩; obtain ⟨A8, c8, hv8, _, _⟩ := ho.form; subst hv8; rw [HPL.out] at ho ⊢; skip; have HOP := Lib.hid ho; have HKy := Lib.hid (HK.out.below hb); clear HK; have HK := HKy; clear HKy; have HVy := Lib.hid (HV.out.below hb); clear HV; have HV := HVy; clear HVy; have HXy := Lib.hid (HX.out.below hb HX.out.lt); clear HX; have HX := HXy; clear HXy; have x0 := HX.out.cell 0 (v := .string k5) rfl; have x1 := HX.out.cell 1 (v := .string x5) rfl; have x2 := HX.out.cell 2 (v := .slice A5 n5 c5) rfl; clear ho hb; have tok9 := True.intro; clear _t tok8)
          | (go_at_call 14; have _t := tok9; refine (HC1.out _).mono ?_; rintro e w8d ⟨rfl, rfl⟩; skip; have tok10 := True.intro; clear _t tok9)
          | (go_at_call 13; have _t := tok10; refine (HO1.out _ HK.out.bel).mono ?_; rintro e w9 ⟨k9, x9, A9, n9, c9, rfl, hv, hb⟩; skip; have HU := Lib.hid hv; have HKy := Lib.hid (HK.out.below hb); clear HK; have HK := HKy; clear HKy; have HVy := Lib.hid (HV.out.below hb); clear HV; have HV := HVy; clear HVy; have HXy := Lib.hid (HX.out.below hb HX.out.lt); clear HX; have HX := HXy; clear HXy; have x0 := HX.out.cell 0 (v := .string k5) rfl; have x1 := HX.out.cell 1 (v := .string x5) rfl; have x2 := HX.out.cell 2 (v := .slice A5 n5 c5) rfl; have HOPy := Lib.hid (HOP.out.below hb); clear HOP; have HOP := HOPy; clear HOPy; clear hb hv; have tok11 := True.intro; clear _t tok10)
          | (go_at_call 16; have _t := tok11; refine (LearnV w _ kb mb L o1 _ _ _ _ _ HK.out (by have := HLL.out; omega) HU.out a HE.out).mono ?_; rintro e w10 ⟨⟨v10, rfl⟩, hk, hu⟩; skip; have HVy := Lib.hid (HV.out.upd HK.out hu); clear HV; have HV := HVy; clear HVy; have HXy := Lib.hid (blk_upd2 HX.out hu HAB.out); clear HX; have HX := HXy; clear HXy; have HOPy := Lib.hid (own_upd HOP.out hu HKL.out.1 HKL.out.2); clear HOP; have HOP := HOPy; clear HOPy; have x0 := HX.out.cell 0 (v := .string k5) rfl; have x1 := HX.out.cell 1 (v := .string x5) rfl; have x2 := HX.out.cell 2 (v := .slice A5 n5 c5) rfl; clear HK; have HK := Lib.hid hk; clear hk hu; have tok12 := True.intro; clear _t tok11)
          | (go_at_call 12; have _t := tok12; refine (Parts_KS w _ kb mb (L ++ o1.toList) HK.out (by have := HL2.out; omega)).mono ?_; rintro e w12 ⟨v12, rfl, ho, hb⟩; obtain ⟨A12, c12, rfl, hr12, _⟩ := ho.form; rw [HQL.out]; skip; have HRN := Lib.hid hr12; have HKy := Lib.hid (HK.out.below hb); clear HK; have HK := HKy; clear HKy; have HVy := Lib.hid (HV.out.below hb); clear HV; have HV := HVy; clear HVy; have HXy := Lib.hid (HX.out.below hb HX.out.lt); clear HX; have HX := HXy; clear HXy; have x0 := HX.out.cell 0 (v := .string k5) rfl; have x1 := HX.out.cell 1 (v := .string x5) rfl; have x2 := HX.out.cell 2 (v := .slice A5 n5 c5) rfl; have HOPy := Lib.hid (HOP.out.below hb); clear HOP; have HOP := HOPy; clear HOPy; clear ho hb hr12; have tok13 := True.intro; clear _t tok12))
        obtain ⟨A8', c8', hv8, hr8, _⟩ := HOP.out.form
        simp only [Value.slice.injEq] at hv8
        obtain ⟨rfl, -, -⟩ := hv8
        have HRP := Lib.hid hr8
        have hqb : nq ≤ 500000 := by have := HK.out.plen (by have := HL2.out; omega); rw [HQN.out] at this; exact this
        have HSUB := Lib.hid (show ∀ t ∈ L, t ∈ L ++ o1.toList from fun t ht => List.mem_append_left _ ht)
        have HGR := Lib.hid (pts_grd HKN.out HK.out.kn HSUB.out)
        clear hr8 HOP
        go_loopw [17, 84] (fun at_ i wr2 => ∃ m j : Nat, j ≤ nq ∧ at_ = .int .i64 m ∧ i = .int .i64 j ∧ Grd (ptsL L) (ptsL (L ++ o1.toList)) m j ∧ Below w12.heap.size w12 wr2) (fun _ i _ => nq - (intOf i).toNat)
        case atStart => exact ⟨0, 0, Nat.zero_le _, rfl, rfl, HGR.out.1, Below.refl _ _⟩
        case round =>
          obtain ⟨m, j, hj, rfl, rfl, hg, hb⟩ := hrel
          have HG := Lib.hid hg
          have HB := Lib.hid hb
          have hmp : m ≤ np := by have := hg.le; rw [HPN.out] at this; exact this
          have HXr := Lib.hid (HX.out.below hb HX.out.lt)
          have HKr := Lib.hid (HK.out.below hb)
          have HVr := Lib.hid (HV.out.below hb)
          have HRPr := Lib.hid (HRP.out.below hb)
          have HRNr := Lib.hid (HRN.out.below hb)
          clear HX HK HV HRP HRN hg hb x0 x1 x2
          have x0 := HXr.out.cell 0 (v := .string k5) rfl
          have x1 := HXr.out.cell 1 (v := .string x5) rfl
          have x2 := HXr.out.cell 2 (v := .slice A5 n5 c5) rfl
          by_cases hjn : j < nq
          · have hd : decide (j < nq) = true := by simp; exact hjn
            have hdi : (j : Int) < nq := by omega
            have hj0 : (0 : Int) ≤ j := by omega
            obtain ⟨y, hy⟩ : ∃ y, (ptsL (L ++ o1.toList))[j]? = some y := ⟨_, List.getElem?_eq_getElem (by rw [HQN.out]; exact hjn)⟩
            obtain ⟨bq, oq, rfl, hcq⟩ := pts_at HRNr.out hy
            have HY := Lib.hid hy
            clear hy
            by_cases hmn : m < np
            · have e1 : decide (m < np) = true := by simp; exact hmn
              have e1i : (m : Int) < np := by omega
              have hm0 : (0 : Int) ≤ m := by omega
              obtain ⟨z, hz⟩ : ∃ z, (ptsL L)[m]? = some z := ⟨_, List.getElem?_eq_getElem (by rw [HPN.out]; exact hmn)⟩
              obtain ⟨bp, op, rfl, hcp⟩ := pts_at HRPr.out hz
              by_cases hzy : z = y
              · have hbe : ((strB z).toList == (strB y).toList) = true := by rw [strB_beq, hzy]; exact beq_self_eq_true _
                have HN := Lib.hid (HG.out.hit HGR.out.2.1 (hzy ▸ hz) HY.out)
                clear hz hzy
                go_wp2
                go_roundw
                case rel =>
                  have REL := Lib.hid (show ∃ m' j' : Nat, j' ≤ nq ∧ Value.int .i64 ((m : Int) + 1) = .int .i64 m' ∧ Value.int .i64 ((j : Int) + 1) = .int .i64 j' ∧ Grd (ptsL L) (ptsL (L ++ o1.toList)) m' j' ∧ Below w12.heap.size w12 wr from ⟨_, j + 1, hjn, rfl, rfl, HN.out, HB.out⟩)
                  first
                    | exact REL.out
                    | ((repeat apply Exists.intro); refine ⟨?_, rfl⟩; exact REL.out)
                case measure => (first | (simp [intOf]; done) | (simp [intOf]; omega))
              · have hbe : ((strB z).toList == (strB y).toList) = false := by rw [strB_beq, beq_eq_false_iff_ne]; exact hzy
                have HN := Lib.hid (HG.out.miss HGR.out.2.2.1 HGR.out.2.2.2 (by rw [hz]; exact fun e => hzy (Option.some.inj e)) HY.out)
                clear hz hzy
                go_wp2
                go_roundw
                case rel =>
                  have REL := Lib.hid (show ∃ m' j' : Nat, j' ≤ nq ∧ Value.int .i64 ((m : Int)) = .int .i64 m' ∧ Value.int .i64 ((j : Int) + 1) = .int .i64 j' ∧ Grd (ptsL L) (ptsL (L ++ o1.toList)) m' j' ∧ Below w12.heap.size w12 wr from ⟨_, j + 1, hjn, rfl, rfl, HN.out, HB.out⟩)
                  first
                    | exact REL.out
                    | ((repeat apply Exists.intro); refine ⟨?_, rfl⟩; exact REL.out)
                case measure => (first | (simp [intOf]; done) | (simp [intOf]; omega))
            · have e1 : decide (m < np) = false := by simp; omega
              have e1i : ¬ (m : Int) < np := by omega
              have HN := Lib.hid (HG.out.miss HGR.out.2.2.1 HGR.out.2.2.2 (by rw [List.getElem?_eq_none (by rw [HPN.out]; omega)]; exact fun e => by cases e) HY.out)
              go_wp2
              go_roundw
              case rel =>
                have REL := Lib.hid (show ∃ m' j' : Nat, j' ≤ nq ∧ Value.int .i64 ((m : Int)) = .int .i64 m' ∧ Value.int .i64 ((j : Int) + 1) = .int .i64 j' ∧ Grd (ptsL L) (ptsL (L ++ o1.toList)) m' j' ∧ Below w12.heap.size w12 wr from ⟨_, j + 1, hjn, rfl, rfl, HN.out, HB.out⟩)
                first
                  | exact REL.out
                  | ((repeat apply Exists.intro); refine ⟨?_, rfl⟩; exact REL.out)
              case measure => (first | (simp [intOf]; done) | (simp [intOf]; omega))
          · obtain rfl : j = nq := by omega
            have hd : decide (j < j) = false := by simp
            have hmm : m = np := by have h := HG.out; rw [← HQN.out] at h; rw [← HPN.out]; exact h.fin
            subst hmm
            go_wp2_with (first
              | (refine Cv.load_cells rfl 31 _ rfl w5.heap.size 0 rfl #[.string k5, .string x5, .slice A5 n5 c5] _ (fun j v hv => by rw [Nat.zero_add]; exact HXr.out.cell j hv) Tryd.underlying31 rfl (by kernel_rfl) ?_; skip)
              | (go_at_call 15; refine (DerivesV w _ kb mb (L ++ o1.toList) o2 _ _ _ _ _ HKr.out HVr.out).mono ?_; rintro e w13 ⟨rfl, hb⟩; rw [dOf_mono HSUB.out HWAS.out]; skip; have HKry := Lib.hid (HKr.out.below hb); clear HKr; have HKr := HKry; clear HKry; clear hb))
            go_ret
            exact ⟨by first | rfl | simp, HKr.out.bel⟩
end Go.Proofs.YtfcemnebhapidaaDoor.Te
