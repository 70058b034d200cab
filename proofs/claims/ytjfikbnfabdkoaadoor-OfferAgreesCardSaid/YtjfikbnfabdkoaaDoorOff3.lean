/- offer.Ours, offer.Make. -/
import Derived.Test.YtjfikbnfabdkoaaDoorOff2
import Derived.Test.YtjfikbnfabdkoaaDoorMsgFew
set_option linter.unusedVariables false
set_option linter.unusedSimpArgs false
namespace Go.Proofs.YtjfikbnfabdkoaaDoor.Of
open Go.RowKit Go.Proofs.YtjfikbnfabdkoaaDoor.Wi Go.Proofs.YtjfikbnfabdkoaaDoor.Ow Go.Proofs.YtjfikbnfabdkoaaDoor.Be Go.Proofs.YtjfikbnfabdkoaaDoor.Mg Go.Proofs.YtjfikbnfabdkoaaDoor.Sp
def kexB : ByteArray := ⟨#[99, 117, 114, 118, 101, 50, 53, 53, 49, 57, 45, 115, 104, 97, 50, 53, 54]⟩
def hostB : ByteArray := ⟨#[115, 115, 104, 45, 101, 100, 50, 53, 53, 49, 57]⟩
def noneB : ByteArray := ⟨#[110, 111, 110, 101]⟩
theorem slOne {w : World} {b T : Nat} {s : ByteArray} (h : Rg.Blk w b T #[.string s]) : SL w (.slice (some ⟨b, 0, none⟩) 1 1) ([s].map Value.string) :=
  ⟨some ⟨b, 0, none⟩, 1, 1, rfl, rfl, fun j x hj => ⟨b, 0, rfl, h.lt, by
    match j, hj with
    | 0, hj => simp at hj; subst hj; exact h.cell 0 rfl⟩, Nat.le_refl _, by decide⟩
/-- string(v), v a slice of bytes that reads -/
theorem strR {P : Program} {ops : Array Oper} {rest : List Oper} {o : Oper} {a : Act} {w : World} {Q : Exit → Act → World → Prop} (hgd : o.guard = none) (src e dst : TypeId) (x : Operand) (ho : o.op = .convert src dst x)
    (hs : P.underlying src = some (.slice e)) (he : P.underlying e = some (.int .u8)) (hd : P.underlying dst = some .string) {A : Option Addr} {n c : Nat} {l : List UInt8} (hn : l.length = n) (hR : Rd w A (bv l)) (hx : a.eval x = .slice A n c)
    (h : wpList P ops Q rest (a.put o.dst (.string ⟨l.toArray⟩)) w) : wpList P ops Q (o :: rest) a w :=
  wpList_plain hgd fun _ hK => by
    unfold Oper.wp execOp
    simp only [ho, hx, Sem.run_bind, run_str (P := P) w src e dst hs he hd hn hR, Result.andThen_ok, Sem.run_pure]
    exact hK _ _ h
theorem rdBytes {w : World} {b T : Nat} {l : List UInt8} (h : Rg.Blk w b T (bv l).toArray) : Rd w (some ⟨b, 0, none⟩) (bv l) := fun j x hj => ⟨b, 0, rfl, h.lt, by rw [Nat.zero_add]; exact h.cell j (by simpa using hj)⟩
set_option maxRecDepth 20000 in
set_option maxHeartbeats 2000000 in
theorem Ours_any (w : World) : Calls Tryd.prog 35 #[] w fun e w' => ∃ v0 v1 v2 v3, e = .returned (.agg #[v0, v1, v2, v3, v3]) ∧ SL w' v0 ([kexB].map Value.string) ∧ SL w' v1 ([hostB].map Value.string) ∧ SL w' v2 ([cipherB].map Value.string) ∧ SL w' v3 ([noneB].map Value.string) ∧ Below w.heap.size w w' := by
  have HK := Lib.hid (show kexB = ⟨#[99, 117, 114, 118, 101, 50, 53, 53, 49, 57, 45, 115, 104, 97, 50, 53, 54]⟩ from rfl)
  go_enter Tryd.func35, Tryd.ntmps35
  go_upto_region 2 with (fail)
  refine wp_nameO (fun X hX => ?_)
  have HX := Lib.hid (show Mem w [] X [Sp.blk w.heap.size 25 #[.slice none 0 0, .slice none 0 0, .slice none 0 0, .slice none 0 0, .slice none 0 0], Sp.blk (w.heap.size + 1) 9 #[.string ⟨#[110, 111, 110, 101]⟩]] by
    rw [hX]
    have h := ((Mem.start w).alloc #[.slice none 0 0, .slice none 0 0, .slice none 0 0, .slice none 0 0, .slice none 0 0] 25).alloc #[.string ⟨#[110, 111, 110, 101]⟩] 9
    rw [World.size_alloc] at h
    exact h)
  clear hX
  have HY := Lib.hid (((HX.out.alloc #[.string ⟨#[99, 117, 114, 118, 101, 50, 53, 53, 49, 57, 45, 115, 104, 97, 50, 53, 54]⟩] 9).alloc #[.string ⟨#[115, 115, 104, 45, 101, 100, 50, 53, 53, 49, 57]⟩] 9).alloc #[.string ⟨#[99, 104, 97, 99, 104, 97, 50, 48, 45, 112, 111, 108, 121, 49, 51, 48, 53]⟩] 9)
  go_wp2_with (first
    | (refine Cv.store_blk rfl 25 _ _ rfl w.heap.size #[.slice (some ⟨X.heap.size, 0, none⟩) 1 1, .slice (some ⟨X.heap.size + 1, 0, none⟩) 1 1, .slice (some ⟨X.heap.size + 1 + 1, 0, none⟩) 1 1, .slice (some ⟨w.heap.size + 1, 0, none⟩) 1 1, .slice (some ⟨w.heap.size + 1, 0, none⟩) 1 1] #[.slice none 0 0, .slice none 0 0, .slice none 0 0, .slice none 0 0, .slice none 0 0] 25 rfl rfl (HY.out.blk 0 rfl) (by kernel_rfl) rfl (by simp [Value.oneCell']) ?_
       intro V hV hgV
       have hm := HY.out.store 0 rfl hV hgV
       simp only [World.size_alloc, List.cons_append, List.nil_append, List.set_cons_zero] at hm
       have HM := Lib.hid hm
       have z0 := hV.cell 0 (v := .slice (some ⟨X.heap.size, 0, none⟩) 1 1) rfl
       have z1 := hV.cell 1 (v := .slice (some ⟨X.heap.size + 1, 0, none⟩) 1 1) rfl
       have z2 := hV.cell 2 (v := .slice (some ⟨X.heap.size + 1 + 1, 0, none⟩) 1 1) rfl
       have z3 := hV.cell 3 (v := .slice (some ⟨w.heap.size + 1, 0, none⟩) 1 1) rfl
       have z4 := hV.cell 4 (v := .slice (some ⟨w.heap.size + 1, 0, none⟩) 1 1) rfl
       clear hm hV hgV))
  refine bodyPost_ret (v := .agg #[.slice (some ⟨X.heap.size, 0, none⟩) 1 1, .slice (some ⟨X.heap.size + 1, 0, none⟩) 1 1, .slice (some ⟨X.heap.size + 1 + 1, 0, none⟩) 1 1, .slice (some ⟨w.heap.size + 1, 0, none⟩) 1 1, .slice (some ⟨w.heap.size + 1, 0, none⟩) 1 1]) (by simp [results, Tryd.results35, go_sem, z0, z1, z2, z3, z4]) rfl ?_
  exact ⟨_, _, _, _, rfl, slOne (HM.out.blk 2 rfl), slOne (HM.out.blk 3 rfl), slOne (HM.out.blk 4 rfl), slOne (HM.out.blk 1 rfl), HM.out.bel⟩
/-- the ten lists of a message -/
def tenL (k h c m z : List ByteArray) : List (List ByteArray) := [k, h, c, c, m, m, z, z, [], []]
def mkM (l : List UInt8) (k h c m z : List ByteArray) (g : Bool) : Msg := ⟨20, [0], [⟨l.toArray⟩], tenL k h c m z, [g]⟩
def Cloned (w : World) (P : Nat) (cb : Array Value) (cl : Array Value) (cr : Array Value) (V10 : List Value) (L10 : List (List ByteArray)) (n : Value) (k : Nat) (wr : World) : Prop :=
  ∃ vals, vals.length = k ∧ Mem w [] wr [Sp.blk w.heap.size 22 cb, Sp.blk (w.heap.size + 1) 25 cl, Sp.blk (w.heap.size + 1 + 1) 32 cr, Sp.blk P 23 V10.toArray, own 23 n vals, many (lists vals (L10.take k))]
def MakePost (w : World) (l : List UInt8) (k h c m z : List ByteArray) (g : Bool) (e : Ending) (w' : World) : Prop :=
  ∃ xu xs xn xb, e = .returned (.agg #[.int .i64 20, xu, xs, xn, xb]) ∧ IsMsg w' (mkM l k h c m z g) xu xs xn xb ∧ Below w.heap.size w w'
theorem MakePost.mk {w wF : World} {l : List UInt8} {kk hh cc mm zz : List ByteArray} {g : Bool} {P b1 b2 b3 : Nat} {cb cl c10 cr : Array Value} {n : Value} {vals : List Value} (hv : vals.length = 10)
    (hm : Mem w [] wF [Sp.blk w.heap.size 22 cb, Sp.blk (w.heap.size + 1) 25 cl, Sp.blk (w.heap.size + 1 + 1) 32 cr, Sp.blk P 23 c10, own 23 n vals, many (lists vals (tenL kk hh cc mm zz)), Sp.blk b1 34 #[.int .u32 0], Sp.blk b2 9 #[.string ⟨l.toArray⟩], Sp.blk b3 4 #[.bool g]]) :
    MakePost w l kk hh cc mm zz g (.returned (.agg #[.int .i64 20, .slice (some ⟨b1, 0, none⟩) 1 1, .slice (some ⟨b2, 0, none⟩) 1 1, n, .slice (some ⟨b3, 0, none⟩) 1 1])) wF := by
  obtain ⟨ss, hs⟩ := hm.seen (V := wF) (fun k _ _ => rfl)
  obtain ⟨tt, ht⟩ := hs.many 5 rfl
  refine ⟨_, _, _, _, rfl, ⟨?_, slOne (hm.blk 7 rfl), ⟨vals, slOwns (hs.owns 4 rfl), hv, fun j x hj => ?_⟩, ?_⟩, hm.bel⟩
  · exact ⟨some ⟨b1, 0, none⟩, 1, 1, rfl, rfl, fun j x hj => ⟨b1, 0, rfl, (hm.blk 6 rfl).lt, by
      match j, hj with
      | 0, hj => simp [mkM] at hj; subst hj; exact (hm.blk 6 rfl).cell 0 rfl⟩, Nat.le_refl _, by decide⟩
  · obtain ⟨v, h1, h2⟩ := lists_get vals (tenL kk hh cc mm zz) hv j x hj
    exact ⟨v, h1, slOwns (ht.owns j h2)⟩
  · exact ⟨some ⟨b3, 0, none⟩, 1, 1, rfl, rfl, fun j x hj => ⟨b3, 0, rfl, (hm.blk 8 rfl).lt, by
      match j, hj with
      | 0, hj => simp [mkM] at hj; subst hj; exact (hm.blk 8 rfl).cell 0 rfl⟩, Nat.le_refl _, by decide⟩
set_option maxRecDepth 20000 in
set_option maxHeartbeats 4000000 in
theorem Make_any (w : World) (l : List UInt8) (hl : l.length = 16) (vk vh vc vm vz : Value) (kk hh cc mm zz : List ByteArray) (h0 : SL w vk (kk.map Value.string)) (h1 : SL w vh (hh.map Value.string)) (h2 : SL w vc (cc.map Value.string)) (h3 : SL w vm (mm.map Value.string)) (h4 : SL w vz (zz.map Value.string))
    (hz : kk.length ≤ 100000 ∧ hh.length ≤ 100000 ∧ cc.length ≤ 100000 ∧ mm.length ≤ 100000 ∧ zz.length ≤ 100000) (g : Bool) :
    Calls Tryd.prog 12 #[.agg (bv l).toArray, .agg #[vk, vh, vc, vm, vz], .bool g] w (MakePost w l kk hh cc mm zz g) := by
  obtain ⟨A0, n0, c0, rfl, _⟩ := id h0
  obtain ⟨A1, n1, c1, rfl, _⟩ := id h1
  obtain ⟨A2, n2, c2, rfl, _⟩ := id h2
  obtain ⟨A3, n3, c3, rfl, _⟩ := id h3
  obtain ⟨A4, n4, c4, rfl, _⟩ := id h4
  obtain ⟨V10, hV10⟩ : ∃ V10 : List Value, [.slice A0 n0 c0, .slice A1 n1 c1, .slice A2 n2 c2, .slice A2 n2 c2, .slice A3 n3 c3, .slice A3 n3 c3, .slice A4 n4 c4, .slice A4 n4 c4, .slice none 0 0, .slice none 0 0] = V10 := ⟨_, rfl⟩
  obtain ⟨L10, hL10⟩ : ∃ L10, tenL kk hh cc mm zz = L10 := ⟨_, rfl⟩
  have HSL := Lib.hid (show ∀ (j : Nat) (x : List ByteArray), L10[j]? = some x → ∃ u, V10[j]? = some u ∧ SL w u (x.map Value.string) ∧ x.length * 16 ≤ 140737488355328 by
    rw [← hV10, ← hL10]
    intro j x hj
    match j, hj with
    | 0, hj => simp [tenL] at hj; subst hj; exact ⟨_, rfl, h0, by omega⟩
    | 1, hj => simp [tenL] at hj; subst hj; exact ⟨_, rfl, h1, by omega⟩
    | 2, hj => simp [tenL] at hj; subst hj; exact ⟨_, rfl, h2, by omega⟩
    | 3, hj => simp [tenL] at hj; subst hj; exact ⟨_, rfl, h2, by omega⟩
    | 4, hj => simp [tenL] at hj; subst hj; exact ⟨_, rfl, h3, by omega⟩
    | 5, hj => simp [tenL] at hj; subst hj; exact ⟨_, rfl, h3, by omega⟩
    | 6, hj => simp [tenL] at hj; subst hj; exact ⟨_, rfl, h4, by omega⟩
    | 7, hj => simp [tenL] at hj; subst hj; exact ⟨_, rfl, h4, by omega⟩
    | 8, hj => simp [tenL] at hj; subst hj; exact ⟨_, rfl, SL.nil w, by simp⟩
    | 9, hj => simp [tenL] at hj; subst hj; exact ⟨_, rfl, SL.nil w, by simp⟩
    | j + 10, hj => simp [tenL] at hj)
  have HVL := Lib.hid (show V10.length = 10 by rw [← hV10]; rfl)
  have HLL := Lib.hid (show L10.length = 10 by rw [← hL10]; rfl)
  have HVV := Lib.hid hV10
  have HLV := Lib.hid hL10
  have HLN := Lib.hid hl
  obtain ⟨cb, hcb⟩ : ∃ cb, (bv l).toArray = cb := ⟨_, rfl⟩
  have HCB := Lib.hid hcb
  have HCS := Lib.hid (show cb.size = 16 by rw [← hcb, List.size_toArray, bv_length]; exact hl)
  rw [hcb]
  clear h0 h1 h2 h3 h4 hz hV10 hL10 hl hcb
  go_enter Tryd.func12, Tryd.ntmps12
  go_upto_region 3 with (fail)
  refine wp_nameO (fun X hX => ?_)
  have HX := Lib.hid (show Mem w [] X [Sp.blk w.heap.size 22 cb, Sp.blk (w.heap.size + 1) 25 #[.slice A0 n0 c0, .slice A1 n1 c1, .slice A2 n2 c2, .slice A3 n3 c3, .slice A4 n4 c4], Sp.blk (w.heap.size + 1 + 1) 32 #[.int .i64 0, .slice none 0 0, .slice none 0 0, .slice none 0 0, .slice none 0 0], Sp.blk (w.heap.size + 1 + 1 + 1) 23 V10.toArray] by
    rw [hX, ← HVV.out]
    have h := ((((Mem.start w).alloc cb 22).alloc #[.slice A0 n0 c0, .slice A1 n1 c1, .slice A2 n2 c2, .slice A3 n3 c3, .slice A4 n4 c4] 25).alloc #[.int .i64 0, .slice none 0 0, .slice none 0 0, .slice none 0 0, .slice none 0 0] 32).alloc #[.slice A0 n0 c0, .slice A1 n1 c1, .slice A2 n2 c2, .slice A2 n2 c2, .slice A3 n3 c3, .slice A3 n3 c3, .slice A4 n4 c4, .slice A4 n4 c4, .slice none 0 0, .slice none 0 0] 23
    simp only [World.size_alloc, List.cons_append, List.nil_append] at h
    exact h)
  clear hX
  have hm0 := (HX.out.nilOwn 23).manyNil
  simp only [List.cons_append, List.nil_append] at hm0
  have HM0 := Lib.hid hm0
  clear hm0 HX
  generalize w.heap.size + 1 + 1 + 1 = P at *
  go_loopw [7, 28] (fun n i wr => ∃ (k : Nat) (v : Value) (W : World), k ≤ 10 ∧ v = n ∧ W = wr ∧ i = .int .i64 k ∧ Cloned w P cb #[.slice A0 n0 c0, .slice A1 n1 c1, .slice A2 n2 c2, .slice A3 n3 c3, .slice A4 n4 c4] #[.int .i64 0, .slice none 0 0, .slice none 0 0, .slice none 0 0, .slice none 0 0] V10 L10 v k W) (fun _ i _ => 11 - (intOf i).toNat)
  case atStart => exact ⟨0, _, _, by omega, rfl, rfl, rfl, [], rfl, HM0.out⟩
  case round =>
    obtain ⟨k, v, W, hk, rfl, rfl, rfl, hcl⟩ := hrel
    obtain ⟨vals, hvl, hm⟩ := hcl
    have HM := Lib.hid hm
    have HVN := Lib.hid hvl
    clear hm hvl HM0
    by_cases hkn : k < 10
    · have hki : (k : Int) < 10 := by omega
      have hkl : k < L10.length := by have := HLL.out; omega
      obtain ⟨x, hx⟩ : ∃ x, L10[k]? = some x := ⟨_, List.getElem?_eq_getElem hkl⟩
      obtain ⟨u, hu, hsl, hsz⟩ := HSL.out k x hx
      have kc0 : W.cell? ⟨P, k, none⟩ = some u := (HM.out.blk 3 rfl).cell k (by simpa using hu)
      have HCL := Lib.hid (Clone_any W u x (hsl.below HM.out.bel) hsz)
      obtain ⟨Au, nu, cu, rfl, _⟩ := id hsl
      have HXK := Lib.hid hx
      clear hx hu hsl hsz
      go_wp2_with (first
        | (go_at_call 36; refine HCL.out.mono ?_; rintro e w2 ⟨v', rfl, ho, hb⟩
           have hm2 := HM.out.newOwn ho hb
           obtain ⟨A', c', rfl, _, _⟩ := ho.form
           simp only [List.cons_append, List.nil_append, List.length_map] at hm2 ⊢
           have HM2 := Lib.hid hm2
           clear ho hb hm2)
        | (at_builtin; refine app1 rfl _ _ _ rfl Tryd.underlying29 infoStrs rfl (by decide) (HM2.out.own 4 rfl) rfl rfl (by simp [Value.oneCell']) (by rw [HVN.out]; omega) (Nat.zero_le _) ?_
           intro v9 w6 ho hg hat
           have hm6 := HM2.out.app 4 rfl ho hg (hat.imp id fun e => ⟨_, e, Nat.le_succ _⟩)
           simp only [List.set_cons_succ, List.set_cons_zero] at hm6
           have HN := Lib.hid hm6
           clear ho hg hat hm6))
      have hn := Mem.absorb (L := [Sp.blk w.heap.size 22 cb, Sp.blk (w.heap.size + 1) 25 #[.slice A0 n0 c0, .slice A1 n1 c1, .slice A2 n2 c2, .slice A3 n3 c3, .slice A4 n4 c4], Sp.blk (w.heap.size + 1 + 1) 32 #[.int .i64 0, .slice none 0 0, .slice none 0 0, .slice none 0 0, .slice none 0 0], Sp.blk P 23 V10.toArray, own 23 _ _]) HN.out
      have HN2 := Lib.hid (show Cloned w P cb #[.slice A0 n0 c0, .slice A1 n1 c1, .slice A2 n2 c2, .slice A3 n3 c3, .slice A4 n4 c4] #[.int .i64 0, .slice none 0 0, .slice none 0 0, .slice none 0 0, .slice none 0 0] V10 L10 v9 (k + 1) w6 from ⟨vals ++ [.slice A' x.length c'], by rw [List.length_append, HVN.out]; rfl, by
        have e : L10.take (k + 1) = L10.take k ++ [x] := by rw [List.take_succ_eq_append_getElem hkl]; have := HXK.out; rw [List.getElem?_eq_getElem hkl] at this; injection this with this; rw [this]
        rw [e, lists_snoc _ _ _ _ (by rw [HVN.out, List.length_take]; omega)]
        exact hn⟩)
      clear hn HN
      go_roundw
      case rel =>
        first
          | exact ⟨k + 1, _, _, by omega, rfl, rfl, by go_num, HN2.out⟩
          | ((repeat apply Exists.intro); refine ⟨?_, rfl⟩; exact ⟨k + 1, _, _, by omega, rfl, rfl, by go_num, HN2.out⟩)
      case measure => simp [intOf]; omega
    · obtain rfl : k = 10 := by omega
      have hm := HM.out
      rw [List.take_of_length_le (by rw [HLL.out]; omega), ← HLV.out] at hm
      obtain ⟨Av, cv, rfl, _, _⟩ := (hm.own 4 rfl).form
      rw [HVN.out] at hm ⊢
      have hkx : ((10 : Nat) : Int) = 10 := rfl
      rw [hkx]
      have HM2 := Lib.hid hm
      clear hm
      have HMA := Lib.hid (HM2.out.alloc #[.int .u32 0] 34)
      have HRD := Lib.hid (show Rd (W.alloc (.cells #[.int .u32 0] 34)) (some ⟨w.heap.size, 0, none⟩) (bv l) from rdBytes (by rw [HCB.out]; exact HMA.out.blk 0 rfl))
      have HME := Lib.hid ((HMA.out.alloc #[.string ⟨l.toArray⟩] 9).alloc #[.bool g] 4)
      go_wp2_with (first
        | (refine strR rfl 35 5 9 _ rfl Tryd.underlying35 Tryd.underlying5 Tryd.underlying9 (by rw [HLN.out]) HRD.out rfl ?_; skip)
        | (refine Cv.store_blk rfl 32 _ _ rfl (w.heap.size + 1 + 1) #[.int .i64 20, .slice (some ⟨W.heap.size, 0, none⟩) 1 1, .slice (some ⟨W.heap.size + 1, 0, none⟩) 1 1, .slice Av 10 cv, .slice (some ⟨W.heap.size + 1 + 1, 0, none⟩) 1 1] #[.int .i64 0, .slice none 0 0, .slice none 0 0, .slice none 0 0, .slice none 0 0] 32 rfl rfl (HME.out.blk 2 rfl) (by kernel_rfl) rfl (by simp [Value.oneCell']) ?_
           intro V hV hgV
           have hmv := HME.out.store 2 rfl hV hgV
           simp only [World.size_alloc, List.cons_append, List.nil_append, List.set_cons_zero, List.set_cons_succ] at hmv
           have HMV := Lib.hid hmv
           have z0 := hV.cell 0 (v := .int .i64 20) rfl
           have z1 := hV.cell 1 (v := .slice (some ⟨W.heap.size, 0, none⟩) 1 1) rfl
           have z2 := hV.cell 2 (v := .slice (some ⟨W.heap.size + 1, 0, none⟩) 1 1) rfl
           have z3 := hV.cell 3 (v := .slice Av 10 cv) rfl
           have z4 := hV.cell 4 (v := .slice (some ⟨W.heap.size + 1 + 1, 0, none⟩) 1 1) rfl
           clear hmv hV hgV))
      refine bodyPost_ret (v := .agg #[.int .i64 20, .slice (some ⟨W.heap.size, 0, none⟩) 1 1, .slice (some ⟨W.heap.size + 1, 0, none⟩) 1 1, .slice Av 10 cv, .slice (some ⟨W.heap.size + 1 + 1, 0, none⟩) 1 1]) (by simp [results, Tryd.results12, go_sem, z0, z1, z2, z3, z4]) rfl ?_
      exact MakePost.mk HVN.out HMV.out
end Go.Proofs.YtjfikbnfabdkoaaDoor.Of
