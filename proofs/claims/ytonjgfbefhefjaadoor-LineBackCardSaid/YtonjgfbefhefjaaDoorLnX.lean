/- Line's words, walked. -/
import Derived.Test.YtonjgfbefhefjaaDoorLnW
set_option linter.unusedVariables false
set_option linter.unusedSimpArgs false
namespace Go.Proofs.YtonjgfbefhefjaaDoor.Ln
open Go Go.RowKit Go.Proofs.YtonjgfbefhefjaaDoor.Ow
theorem WI.skip {w W : World} {sh : List UInt8} {c : Cm} {j : Nat} {out ns : List (List UInt8)} {ks : List Int} {v : Value} {A1 A2 : Option Addr} {k1 k2 : Nat} {x : UInt8} (h : WI w sh c j out ns ks v A1 k1 A2 k2 W) (hx : sh[j]? = some x) (h1 : x ≠ 35) (h2 : x ≠ 116) (h3 : x ≠ 110) : WI w sh c (j + 1) out ns ks v A1 k1 A2 k2 W := by
  have hd := drop_cons hx
  exact ⟨by rw [h.eq, hd, wr, if_neg h1, if_neg h2, if_neg h3], h.own, h.b6, h.b2, h.rn, h.rk, h.kn, h.kk, by have := h.cn; rw [hd, List.count_cons_of_ne (fun e => h3 e)] at this; exact this, by have := h.ck; rw [hd, List.count_cons_of_ne (fun e => h1 e)] at this; exact this, h.sn, h.sk, by have := h.ol; omega, h.bel, h.sz⟩
/-- the names that are left -/
structure WJ (w : World) (sh : List UInt8) (c : Cm) (out ns : List (List UInt8)) (v : Value) (A1 : Option Addr) (k1 : Nat) (W : World) : Prop where
  eq : wr sh c.names c.nums c.text = out ++ ns.map wn
  own : Owns W (w.heap.size + 2) 9 v (out.map encS)
  b6 : Rg.Blk W (w.heap.size + 1) 24 #[.slice A1 ns.length k1]
  rn : Rd w A1 (ns.map encS)
  kn : ns.length ≤ k1
  sn : ns <:+ c.names
  ol : out.length + ns.length ≤ 200000
  bel : Below w.heap.size w W
  sz : w.heap.size + 2 ≤ W.heap.size
theorem WI.done {w W : World} {sh : List UInt8} {c : Cm} {j : Nat} {out ns : List (List UInt8)} {ks : List Int} {v : Value} {A1 A2 : Option Addr} {k1 k2 : Nat} (h : WI w sh c j out ns ks v A1 k1 A2 k2 W) (hj : j = sh.length) (hs : sh.length ≤ 100) (hn : c.names.length ≤ 100000) : WJ w sh c out ns v A1 k1 W :=
  ⟨by rw [h.eq, hj, List.drop_length]; rfl, h.own, h.b6, h.rn, h.kn, h.sn, by have := h.ol; have := h.sn.length_le; omega, h.bel, h.sz⟩
theorem WJ.name {w W W1 W' : World} {sh : List UInt8} {c : Cm} {out ns : List (List UInt8)} {x : List UInt8} {v v' : Value} {g o : Nat} {A' : Option Addr} {k1 : Nat} (h : WJ w sh c out (x :: ns) v (some ⟨g, o, none⟩) k1 W) (hA : ns.length ≠ 0 → A' = some ⟨g, o + 1, none⟩)
    (hW : W1 = W.setCell ⟨w.heap.size + 1, 0, none⟩ (.slice A' ns.length (k1 - 1))) (ho : Owns W' (w.heap.size + 2) 9 v' (out.map encS ++ [.string (strB (wn x))])) (hg : W1.grownBy W' v.ownBlock) : WJ w sh c (out ++ [wn x]) ns v' A' (k1 - 1) W' := by
  subst hW
  have p1 := blk_set (j := 0) (v := .slice A' ns.length (k1 - 1)) h.b6
  have p2 := owns_set (b := w.heap.size + 1) (j := 0) (u := .slice A' ns.length (k1 - 1)) h.own (by omega)
  have p5 := h.bel.setCell (p := ⟨w.heap.size + 1, 0, none⟩) (by show w.heap.size ≤ w.heap.size + 1; omega) (.slice A' ns.length (k1 - 1))
  refine ⟨by rw [h.eq]; simp, by rw [← snocS]; exact ho, blk_grown p1 p2 (by omega) hg, rd_tail (by simpa using h.rn) (by simpa using hA), by have := h.kn; simp at this; omega, (List.suffix_cons x ns).trans h.sn, by have := h.ol; simp at this ⊢; omega, p5.grown hg p5.size (fun k e => by have := (p2.lt k e).1; omega), ?_⟩
  have h1 := h.sz
  have h2 := hg.size
  have h3 : (W.setCell ⟨w.heap.size + 1, 0, none⟩ (.slice A' ns.length (k1 - 1))).heap.size = W.heap.size := by simp [World.setCell]
  omega
def JRel (w : World) (sh : List UInt8) (c : Cm) (v : Value) (W : World) : Prop := ∃ (out ns : List (List UInt8)) (A1 : Option Addr) (k1 : Nat), WJ w sh c out ns v A1 k1 W
/-- how many names are left -/
def nleft (z : Nat) (W : World) : Nat := match W.cell? ⟨z + 1, 0, none⟩ with
  | some (.slice _ n _) => n
  | _ => 0
theorem nleft_eq {w W : World} {sh : List UInt8} {c : Cm} {out ns : List (List UInt8)} {v : Value} {A1 : Option Addr} {k1 : Nat} (h : WJ w sh c out ns v A1 k1 W) : nleft w.heap.size W = ns.length := by
  unfold nleft
  rw [h.b6.cell 0 (v := .slice A1 ns.length k1) rfl]
def WRel (w : World) (sh : List UInt8) (c : Cm) (v v7 i : Value) (W : World) : Prop := ∃ (j : Nat) (out ns : List (List UInt8)) (ks : List Int) (A1 : Option Addr) (k1 : Nat) (A2 : Option Addr) (k2 : Nat), j ≤ sh.length ∧ i = .int .i64 j ∧ v7 = .slice A2 ks.length k2 ∧ WI w sh c j out ns ks v A1 k1 A2 k2 W
set_option maxRecDepth 20000 in
set_option maxHeartbeats 8000000 in
theorem words_any (w : World) (c : Cm) (A1 A2 : Option Addr) (k1 k2 : Nat) (hV : CVal w c A1 k1 A2 k2) (hT : TabP w) (sh : List UInt8) (hs : sh.length ≤ 100) (hcn : sh.count 110 ≤ c.names.length) (hck : sh.count 35 ≤ c.nums.length) :
    Calls Tryd.prog 30 #[.agg #[.string (strB c.word), .slice A1 c.names.length k1, .slice A2 c.nums.length k2, .string (strB c.text)], .string (strB sh)] w fun e w' => ∃ v, e = .returned v ∧ Owns w' (w.heap.size + 2) 9 v ((wr sh c.names c.nums c.text).map encS) ∧ Below w.heap.size w w' := by
  have HV := Lib.hid hV
  have HT := Lib.hid hT
  have HSL := Lib.hid hs
  have hst : (strB sh).size = sh.length := strB_size _
  have HBX := Lib.hid (show Below w.heap.size w (w.alloc (.cells #[.string (strB c.word), .slice A1 c.names.length k1, .slice A2 c.nums.length k2, .string (strB c.text)] 27)) from (Below.refl _ _).alloc (Nat.le_refl _) _)
  have HKX := Rg.Blk.new w #[.string (strB c.word), .slice A1 c.names.length k1, .slice A2 c.nums.length k2, .string (strB c.text)] 27
  have hX1 : (w.alloc (.cells #[.string (strB c.word), .slice A1 c.names.length k1, .slice A2 c.nums.length k2, .string (strB c.text)] 27)).heap.size = w.heap.size + 1 := by simp
  have HW0 : ∀ W, W.heap.size = w.heap.size + 2 → Below w.heap.size w W → Rg.Blk W w.heap.size 27 #[.string (strB c.word), .slice A1 c.names.length k1, .slice A2 c.nums.length k2, .string (strB c.text)] → Rg.Blk W (w.heap.size + 1) 24 #[.slice A1 c.names.length k1] →
    WI w sh c 0 [] c.names c.nums (.slice none 0 0) A1 k1 A2 k2 W := fun W h1 h2 h3 h4 => ⟨rfl, Owns.nil _ _ _, h4, ⟨_, _, h3⟩, hV.n, hV.k, hV.nl, hV.kl, hcn, hck, List.suffix_refl _, List.suffix_refl _, Nat.zero_le _, h2, by omega⟩
  have HW0 := Lib.hid HW0
  clear hV hT hcn hck
  go_enter Tryd.func30, Tryd.ntmps30
  go_wp2_with fail
  generalize w.alloc (.cells #[.string (strB c.word), .slice A1 c.names.length k1, .slice A2 c.nums.length k2, .string (strB c.text)] 27) = X at *
  have x1 := HKX.cell 1 (v := .slice A1 c.names.length k1) rfl; have x2 := HKX.cell 2 (v := .slice A2 c.nums.length k2) rfl
  have hzl : w.heap.size < X.heap.size := by omega
  go_region
  all_goals go_wp2_with fail
  have HI0 := Lib.hid (HW0.out ((X.alloc (.cells #[.slice A1 c.names.length k1] 24)).drew) (by simp [World.drew]; omega) (Below.drew (HBX.out.trans (((Below.refl _ _).alloc (Nat.le_refl _) _).mono HBX.out.size))) (blk_drew (HKX.alloc _)) (blk_drew (Rg.Blk.newAt (by omega) _ _)))
  generalize (X.alloc (.cells #[.slice A1 c.names.length k1] 24)).drew = Y at *
  clear x1 x2 hzl HKX hX1
  go_loopw [5, 7, 17] (fun v v7 i W => WRel w sh c v v7 i W) (fun _ _ i _ => sh.length - (intOf i).toNat)
  case atStart => exact ⟨0, _, _, _, _, _, _, _, Nat.zero_le _, rfl, rfl, HI0.out⟩
  case round =>
    obtain ⟨j, out, ns, ks, B1, m1, B2, m2, hj, rfl, rfl, hi⟩ := hrel
    have HI := Lib.hid hi
    have HOL := Lib.hid (show ((out.map encS).length + 1) * 16 ≤ 140737488355328 by have := hi.ol; have := HSL.out; rw [List.length_map]; omega)
    have HZ := Lib.hid hi.sz
    clear hi HI0
    by_cases hlt : j < sh.length
    · have hd1 : decide (j < sh.length) = true := decide_eq_true hlt
      have hij : (j : Int) < (sh.length : Int) := by omega
      have hlt2 : j < (strB sh).size := by rw [strB_size]; exact hlt
      have HX := Lib.hid (get_list (strB sh) j hlt2)
      by_cases hx : (strB sh)[j] = 35
      · have HX2 := Lib.hid (show sh[j]? = some 35 from hx ▸ HX.out)
        have e35 : (((strB sh)[j].toNat : Int) == 35) = true := by rw [hx]; rfl
        have e116 : (((strB sh)[j].toNat : Int) == 116) = false := by rw [hx]; rfl
        have e110 : (((strB sh)[j].toNat : Int) == 110) = false := by rw [hx]; rfl
        clear hx
        obtain ⟨k, ks', rfl⟩ : ∃ k ks', ks = k :: ks' := by
          have h1 := HI.out.ck
          rw [drop_cons HX2.out] at h1
          cases ks with
          | nil => simp at h1
          | cons k ks' => exact ⟨k, ks', rfl⟩
        obtain ⟨b, o, hA, hb, hcl⟩ := HI.out.rk.at_ (j := 0) (by simp)
        subst hA
        have hkr := HV.out.kw k (HI.out.sk.subset (by simp))
        obtain ⟨A', hrun, hA'⟩ := slice_one 25 3 Tryd.underlying25 (by kernel_rfl) b o ks'.length m2 (by have := HI.out.kk; simpa using this)
        have HRT := Lib.hid (show Rd w A' (ks'.map (Value.int .i64)) from rd_tail (b := b) (o := o) (x := .int .i64 k) HI.out.rk (by rw [List.length_map]; exact hA'))
        have HEQ := Lib.hid (show Ln.wr (sh.drop j) ns (k :: ks') c.text = Lib.itoa k :: Ln.wr (sh.drop (j + 1)) ns ks' c.text by rw [drop_cons HX2.out, Ln.wr, if_pos rfl]; rfl)
        have HCN := Lib.hid (show (sh.drop (j + 1)).count 110 ≤ ns.length by have := HI.out.cn; rw [drop_cons HX2.out] at this; simpa using this)
        have HCK := Lib.hid (show (sh.drop (j + 1)).count 35 ≤ ks'.length by have := HI.out.ck; rw [drop_cons HX2.out] at this; simpa using this)
        have HKK := Lib.hid (show ks'.length ≤ m2 - 1 by have := HI.out.kk; simp at this; omega)
        have HSK := Lib.hid (show ks' <:+ c.nums from (List.suffix_cons k ks').trans HI.out.sk)
        have hcell : wr.cell? ⟨b, o, none⟩ = some (.int .i64 k) := (HI.out.bel.cell (p := ⟨b, o, none⟩) hb).trans (by simpa using hcl)
        have HIT := Lib.hid (fun W hT => Itoa_any k hkr.1 hkr.2 W hT)
        have hl2 : (k :: ks').length = ks'.length + 1 := rfl
        rw [hl2]
        clear hb hcl hA' hkr hl2
        go_wp2_with (first
          | (go_at_call 31; refine (HIT.out _ (HT.out.below HI.out.bel)).mono ?_; rintro e w1 ⟨rfl, hb1⟩; skip; have HI1 := Lib.hid (HI.out.below hb1); have HZ1 := Lib.hid HI1.out.sz; clear hb1)
          | (refine app1 rfl _ _ 24 rfl (E := 9) (z := .string ⟨#[]⟩) (by' := 16) rfl rfl rfl (by decide) HI1.out.own rfl rfl rfl HOL.out HZ1.out ?_; rintro v6 w6 h2 h3 h4; skip; have HN := Lib.hid (HI1.out.app HEQ.out HCN.out HCK.out HRT.out HKK.out HSK.out h2 h3); clear h2 h3 h4))
        go_roundw
        case rel =>
          have REL := Lib.hid (show WRel w sh c v6 (.slice A' ks'.length (m2 - 1)) (.int .i64 ((j : Int) + 1)) w6 from ⟨j + 1, _, _, _, _, _, _, _, by omega, by go_num, rfl, HN.out⟩)
          first
            | exact REL.out
            | ((repeat apply Exists.intro); refine ⟨?_, rfl⟩; exact REL.out)
        case measure => (first | (simp [intOf]; done) | (simp [intOf]; omega))
      · have h35 := hx
        clear hx
        by_cases hx : (strB sh)[j] = 116
        · have HX2 := Lib.hid (show sh[j]? = some 116 from hx ▸ HX.out)
          have e35 : (((strB sh)[j].toNat : Int) == 35) = false := by rw [hx]; rfl
          have e116 : (((strB sh)[j].toNat : Int) == 116) = true := by rw [hx]; rfl
          have e110 : (((strB sh)[j].toNat : Int) == 110) = false := by rw [hx]; rfl
          clear hx h35
          have HEQ := Lib.hid (show Ln.wr (sh.drop j) ns ks c.text = hexL c.text :: Ln.wr (sh.drop (j + 1)) ns ks c.text by rw [drop_cons HX2.out, Ln.wr, if_neg (by decide), if_pos rfl])
          have HCN := Lib.hid (show (sh.drop (j + 1)).count 110 ≤ ns.length by have := HI.out.cn; rw [drop_cons HX2.out] at this; simpa using this)
          have HCK := Lib.hid (show (sh.drop (j + 1)).count 35 ≤ ks.length by have := HI.out.ck; rw [drop_cons HX2.out] at this; simpa using this)
          obtain ⟨v1, v2, hb2⟩ := HI.out.b2
          have hcell := hb2.cell 3 (v := .string (strB c.text)) rfl
          have HTS := Lib.hid (show (strB c.text).size ≤ 1000000 by have := HV.out.ts; rw [strB_size]; omega)
          clear hb2
          go_wp2_with (first
            | (go_at_call 50; refine (hex_any (strB c.text) _ HTS.out).mono ?_; rintro e w1 ⟨rfl, hb1⟩; skip; have HI1 := Lib.hid (HI.out.below hb1); have HZ1 := Lib.hid HI1.out.sz; clear hb1)
            | (refine app1 rfl _ _ 24 rfl (E := 9) (z := .string ⟨#[]⟩) (by' := 16) rfl rfl rfl (by decide) HI1.out.own rfl rfl rfl HOL.out HZ1.out ?_; rintro v6 w6 h2 h3 h4; skip; have HN := Lib.hid (HI1.out.app HEQ.out HCN.out HCK.out HI1.out.rk HI1.out.kk HI1.out.sk h2 h3); clear h2 h3 h4))
          go_roundw
          case rel =>
            have REL := Lib.hid (show WRel w sh c v6 (.slice B2 ks.length m2) (.int .i64 ((j : Int) + 1)) w6 from ⟨j + 1, _, _, _, _, _, _, _, by omega, by go_num, rfl, HN.out⟩)
            first
              | exact REL.out
              | ((repeat apply Exists.intro); refine ⟨?_, rfl⟩; exact REL.out)
          case measure => (first | (simp [intOf]; done) | (simp [intOf]; omega))
        · have h116 := hx
          clear hx
          by_cases hx : (strB sh)[j] = 110
          · have HX2 := Lib.hid (show sh[j]? = some 110 from hx ▸ HX.out)
            have e35 : (((strB sh)[j].toNat : Int) == 35) = false := by rw [hx]; rfl
            have e116 : (((strB sh)[j].toNat : Int) == 116) = false := by rw [hx]; rfl
            have e110 : (((strB sh)[j].toNat : Int) == 110) = true := by rw [hx]; rfl
            clear hx h35 h116
            obtain ⟨x, ns', rfl⟩ : ∃ x ns', ns = x :: ns' := by
              have h1 := HI.out.cn
              rw [drop_cons HX2.out] at h1
              cases ns with
              | nil => simp at h1
              | cons x ns' => exact ⟨x, ns', rfl⟩
            obtain ⟨b, o, hA, hb, hcl⟩ := HI.out.rn.at_ (j := 0) (by simp)
            subst hA
            have hcell : wr.cell? ⟨b, o, none⟩ = some (.string (strB x)) := (HI.out.bel.cell (p := ⟨b, o, none⟩) hb).trans (by simpa [encS] using hcl)
            have HNX := Lib.hid (next_any wr (w.heap.size + 1) b o ns'.length m1 x HI.out.b6 hcell (by have := HI.out.kn; simpa using this))
            clear hb hcl hcell
            go_wp2_with (first
              | (go_at_call 49; refine HNX.out.mono ?_; rintro e w1 ⟨rfl, A', hA', hw1⟩; skip; have HP := Lib.hid (HI.out.pop hA'); have HW1 := Lib.hid hw1; rw [← hw1] at HP; have HA' := Lib.hid hA'; have HZ1 := Lib.hid HP.out.2.2.2.2.2; clear hA' hw1)
              | (refine app1 rfl _ _ 24 rfl (E := 9) (z := .string ⟨#[]⟩) (by' := 16) rfl rfl rfl (by decide) HP.out.2.1 rfl rfl rfl HOL.out HZ1.out ?_; rintro v6 w6 h2 h3 h4; skip; have HN := Lib.hid (HI.out.name HA'.out HX2.out HW1.out h2 h3); clear h2 h3 h4))
            go_roundw
            case rel =>
              have REL := Lib.hid (show WRel w sh c v6 (.slice B2 ks.length m2) (.int .i64 ((j : Int) + 1)) w6 from ⟨j + 1, _, _, _, _, _, _, _, by omega, by go_num, rfl, HN.out⟩)
              first
                | exact REL.out
                | ((repeat apply Exists.intro); refine ⟨?_, rfl⟩; exact REL.out)
            case measure => (first | (simp [intOf]; done) | (simp [intOf]; omega))
          · have h110 := hx
            clear hx
            have e35 : (((strB sh)[j].toNat : Int) == 35) = false := by rw [beq_eq_false_iff_ne]; intro e; exact h35 (UInt8.toNat_inj.1 (by show (strB sh)[j].toNat = 35; omega))
            have e116 : (((strB sh)[j].toNat : Int) == 116) = false := by rw [beq_eq_false_iff_ne]; intro e; exact h116 (UInt8.toNat_inj.1 (by show (strB sh)[j].toNat = 116; omega))
            have e110 : (((strB sh)[j].toNat : Int) == 110) = false := by rw [beq_eq_false_iff_ne]; intro e; exact h110 (UInt8.toNat_inj.1 (by show (strB sh)[j].toNat = 110; omega))
            have HN := Lib.hid (HI.out.skip (x := (strB sh)[j]) HX.out h35 h116 h110)
            clear h35 h116 h110
            go_wp2_with fail
            go_roundw
            case rel =>
              have REL := Lib.hid (show WRel w sh c _ (.slice B2 ks.length m2) (.int .i64 ((j : Int) + 1)) wr from ⟨j + 1, _, _, _, _, _, _, _, by omega, by go_num, rfl, HN.out⟩)
              first
                | exact REL.out
                | ((repeat apply Exists.intro); refine ⟨?_, rfl⟩; exact REL.out)
            case measure => (first | (simp [intOf]; done) | (simp [intOf]; omega))
    · have hd1 : decide (j < sh.length) = false := decide_eq_false hlt
      have HJ := Lib.hid (HI.out.done (by omega) HSL.out HV.out.nb)
      clear hlt HI
      go_wp2_with fail
      go_loopw [5] (fun v W => JRel w sh c v W) (fun _ W => nleft w.heap.size W)
      case atStart => exact ⟨_, _, _, _, HJ.out⟩
      case round =>
        obtain ⟨out, ns, B1, m1, hi⟩ := hrel
        have HI := Lib.hid hi
        have HOL := Lib.hid (show ((out.map encS).length + 1) * 16 ≤ 140737488355328 by have := hi.ol; rw [List.length_map]; omega)
        have HZ := Lib.hid hi.sz
        have HNL := Lib.hid (nleft_eq hi)
        have hc6 := hi.b6.cell 0 (v := .slice B1 ns.length m1) rfl
        have hnl : ns.length ≤ 200000 := by have := hi.ol; omega
        clear hi HJ
        cases ns with
        | nil =>
          rw [List.length_nil] at hc6
          have HE := Lib.hid (show Ln.wr sh c.names c.nums c.text = out by rw [HI.out.eq]; simp)
          go_wp2_with fail
          go_ret
          exact ⟨_, rfl, by rw [HE.out]; exact HI.out.own, HI.out.bel⟩
        | cons x ns' =>
          obtain ⟨b, o, hA, hb, hcl⟩ := HI.out.rn.at_ (j := 0) (by simp)
          subst hA
          have hcell : wr.cell? ⟨b, o, none⟩ = some (.string (strB x)) := (HI.out.bel.cell (p := ⟨b, o, none⟩) hb).trans (by simpa [encS] using hcl)
          have HNX := Lib.hid (next_any wr (w.heap.size + 1) b o ns'.length m1 x HI.out.b6 hcell (by have := HI.out.kn; simpa using this))
          have hgt : decide (0 < ns'.length + 1) = true := by rw [decide_eq_true_iff]; omega
          rw [List.length_cons] at hc6 hnl
          clear hb hcl hcell
          go_wp2_with (first
            | (go_at_call 49; refine HNX.out.mono ?_; rintro e w1 ⟨rfl, A', hA', hw1⟩; skip; have HA' := Lib.hid hA'; have HW1 := Lib.hid hw1; have HO1 := Lib.hid (show Owns w1 (w.heap.size + 2) 9 _ (out.map encS) by rw [hw1]; exact owns_set HI.out.own (by omega)); have HZ1 := Lib.hid (show w.heap.size + 2 ≤ w1.heap.size by rw [hw1]; have := HZ.out; simp [World.setCell]; omega); clear hA' hw1)
            | (refine app1 rfl _ _ 24 rfl (E := 9) (z := .string ⟨#[]⟩) (by' := 16) rfl rfl rfl (by decide) HO1.out rfl rfl rfl HOL.out HZ1.out ?_; rintro v6 w6 h2 h3 h4; skip; have HN := Lib.hid (HI.out.name HA'.out HW1.out h2 h3); clear h2 h3 h4))
          go_roundw
          case rel =>
            have REL := Lib.hid (show JRel w sh c v6 w6 from ⟨_, _, _, _, HN.out⟩)
            first
              | exact REL.out
              | ((repeat apply Exists.intro); refine ⟨?_, rfl⟩; exact REL.out)
          case measure =>
            have h1 := HNL.out
            have h2 := nleft_eq HN.out
            rw [List.length_cons] at h1
            (first | (rw [h1, h2]; omega) | (simp only [h1, h2]; omega) | omega)
end Go.Proofs.YtonjgfbefhefjaaDoor.Ln
