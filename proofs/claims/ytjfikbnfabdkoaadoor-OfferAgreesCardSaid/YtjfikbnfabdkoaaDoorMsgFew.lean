/- The laws' Few: the walk. -/
import Derived.Test.YtjfikbnfabdkoaaDoorMsgFew1
import Derived.Test.YtjfikbnfabdkoaaDoorGenA
import Derived.Deep.DeepCutAuto
set_option linter.unusedVariables false
set_option linter.unusedSimpArgs false
namespace Go.Proofs.YtjfikbnfabdkoaaDoor.Mg
open Go.RowKit Go.Proofs.YtjfikbnfabdkoaaDoor.Wi Go.Proofs.YtjfikbnfabdkoaaDoor.Ow Go.Proofs.YtjfikbnfabdkoaaDoor.Be Go.Proofs.YtjfikbnfabdkoaaDoor.Sp
theorem wp_nameF {P : Program} {c : Code} {Q : Exit → Act → World → Prop} {a : Act} {W : World} (h : ∀ X, X = W → c.wp P Q a X) : c.wp P Q a W := h W rfl
theorem Rd.take {w : World} {A : Option Addr} {xs : List Value} (h : Rd w A xs) (n : Nat) : Rd w A (xs.take n) := fun j x hx => h j x (by
  rw [List.getElem?_take] at hx
  split at hx
  · exact hx
  · cases hx)
theorem take_cut (ss : List ByteArray) (n k : Nat) (h : k < ss.length) : ((ss.take (k + 1)).map fun s => Value.string (cut n s)) = ((ss.take k).map fun s => Value.string (cut n s)) ++ [Value.string (cut n ss[k])] := by
  rw [List.take_succ_eq_append_getElem h, List.map_append]; rfl
/-- the lists made so far: their slices, and what they hold -/
def lists (vals : List Value) (nn : List (List ByteArray)) : List Asn := vals.zipWith (fun v l => own 9 v (l.map Value.string)) nn
def Few2 (w : World) (P : Nat) (cm : Array Value) (cs : Value → Array Value) (vs : Value) (S : List Value) (nn : List (List ByteArray)) (k : Nat) (wr : World) : Prop :=
  ∃ vn vals, vals.length = k ∧ Mem w [] wr [Sp.blk w.heap.size 36 cm, Sp.blk (w.heap.size + 1) 36 #[.int .i64 0, .slice none 0 0, .slice none 0 0, .slice none 0 0, .slice none 0 0], Sp.blk P 36 (cs vn), own 9 vs S, own 23 vn vals, many (lists vals ((nn.take k).map fewN))]
def FewPost (w0 w : World) (m : Msg) (e : Ending) (w' : World) : Prop :=
  ∃ xu xs xn xb, e = .returned (.agg (mC m.kind xu xs xn xb)) ∧ (∀ V, Out w0.heap.size w.heap.size w' V → IsMsg V (few m) xu xs xn xb) ∧ Below w.heap.size w w'
theorem lists_snoc (vals : List Value) (nn : List (List ByteArray)) (v : Value) (l : List ByteArray) (h : vals.length = nn.length) : lists (vals ++ [v]) (nn ++ [l]) = lists vals nn ++ [own 9 v (l.map Value.string)] := by
  unfold lists; rw [List.zipWith_append h]; rfl
theorem lists_get (vals : List Value) (nn : List (List ByteArray)) (h : vals.length = nn.length) (j : Nat) (l : List ByteArray) (hj : nn[j]? = some l) : ∃ v, vals[j]? = some v ∧ (lists vals nn)[j]? = some (own 9 v (l.map Value.string)) := by
  have hl : j < vals.length := by rw [h]; exact (List.getElem?_eq_some_iff.1 hj).1
  refine ⟨vals[j], List.getElem?_eq_getElem hl, ?_⟩
  unfold lists
  rw [List.getElem?_zipWith, List.getElem?_eq_getElem hl, hj]
theorem take_few (nn : List (List ByteArray)) (k : Nat) (h : k < nn.length) : (nn.take (k + 1)).map fewN = (nn.take k).map fewN ++ [fewN nn[k]] := by
  rw [List.take_succ_eq_append_getElem h, List.map_append]; rfl
theorem SL.keep {w V : World} {v : Value} {xs : List Value} (h : SL w v xs) (hs : w.heap.size ≤ V.heap.size) (hV : ∀ k, k < w.heap.size → V.heap[k]? = w.heap[k]?) : SL V v xs := by
  obtain ⟨A, n, c, h1, h2, h3, h4⟩ := h
  exact ⟨A, n, c, h1, h2, rd_keep h3 hs hV, h4⟩
theorem SL.take {w : World} {A : Option Addr} {n c : Nat} {xs : List Value} (h : SL w (.slice A n c) xs) (k : Nat) (hk : k ≤ n) : SL w (.slice A k c) (xs.take k) := by
  obtain ⟨A', n', c', h1, h2, h3, h4, h5⟩ := h
  injection h1 with e1 e2 e3
  subst e1 e2 e3
  exact ⟨A, k, c, rfl, by rw [List.length_take]; omega, Rd.take h3 k, by omega, h5⟩
theorem FewPost.mk {w0 w wF : World} {m : Msg} {P : Nat} {cm cs : Array Value} {vs vn : Value} {vals : List Value} {au ab : Option Addr} {nu cu nb cb ku kb : Nat} (h0 : Below w0.heap.size w0 w)
    (hu : SL w0 (.slice au nu cu) (m.u.map fun (x : Nat) => .int .u32 (x : Int))) (hb : SL w0 (.slice ab nb cb) (m.b.map Value.bool)) (hku : min nu 9 = ku) (hkb : min nb 9 = kb)
    (hv : vals.length = (few m).n.length)
    (hm : Mem w [] wF [Sp.blk w.heap.size 36 cm, Sp.blk (w.heap.size + 1) 36 #[.int .i64 m.kind, .slice au ku cu, vs, vn, .slice ab kb cb], Sp.blk P 36 cs, own 9 vs ((few m).s.map Value.string), own 23 vn vals, many (lists vals (few m).n)]) :
    FewPost w0 w m (.returned (.agg #[.int .i64 m.kind, .slice au ku cu, vs, vn, .slice ab kb cb])) wF := by
  refine ⟨_, _, _, _, rfl, fun V hV => ?_, hm.bel⟩
  obtain ⟨ss, hs⟩ := hm.seen (V := V) (fun k hk ho => hV.keep k hk (by rcases ho with h | h; simp at h; exact .inr h))
  have hsz := Nat.le_trans h0.size (Nat.le_trans hm.bel.size hV.size)
  have hk : ∀ k, k < w0.heap.size → V.heap[k]? = w0.heap[k]? := fun k hk => by
    rw [hV.keep k (Nat.lt_of_lt_of_le hk (Nat.le_trans h0.size hm.bel.size)) (.inl hk), hm.bel.block k (Nat.lt_of_lt_of_le hk h0.size)]
    exact h0.block k hk
  obtain ⟨tt, ht⟩ := hs.many 5 rfl
  refine ⟨?_, slOwns (hs.owns 3 rfl), ⟨vals, slOwns (hs.owns 4 rfl), hv, fun j l hj => ?_⟩, ?_⟩
  · have := (SL.take (hu.keep hsz hk) ku (by omega))
    rw [← List.map_take] at this
    have e : m.u.take ku = m.u.take 9 := by
      obtain ⟨A', n', c', h1, h2, _⟩ := hu
      injection h1 with e1 e2 e3
      subst e2
      rw [List.length_map] at h2
      rw [← hku, ← h2]
      rcases Nat.le_total m.u.length 9 with h | h
      · rw [Nat.min_eq_left h, List.take_of_length_le (Nat.le_refl _), List.take_of_length_le h]
      · rw [Nat.min_eq_right h]
    rw [e] at this
    exact this
  · obtain ⟨v, hv1, hv2⟩ := lists_get vals _ hv j l hj
    exact ⟨v, hv1, slOwns (ht.owns j hv2)⟩
  · have := (SL.take (hb.keep hsz hk) kb (by omega))
    rw [← List.map_take] at this
    have e : m.b.take kb = m.b.take 9 := by
      obtain ⟨A', n', c', h1, h2, _⟩ := hb
      injection h1 with e1 e2 e3
      subst e2
      rw [List.length_map] at h2
      rw [← hkb, ← h2]
      rcases Nat.le_total m.b.length 9 with h | h
      · rw [Nat.min_eq_left h, List.take_of_length_le (Nat.le_refl _), List.take_of_length_le h]
      · rw [Nat.min_eq_right h]
    rw [e] at this
    exact this
set_option maxRecDepth 20000 in
set_option maxHeartbeats 8000000 in
theorem Few_any (w0 w : World) (h0 : Below w0.heap.size w0 w) (m : Msg) (vu vs vn vb : Value) (hm0 : IsMsg w0 m vu vs vn vb) :
    Calls Tryd.prog 23 #[.agg (mC m.kind vu vs vn vb)] w (FewPost w0 w m) := by
  obtain ⟨kind, us, ss, ns, bs⟩ := m
  have HM0 := Lib.hid hm0
  have H0 := Lib.hid h0
  have hm := hm0.below h0
  clear hm0 h0
  obtain ⟨au, nu, cu, rfl, hlu, hRu, hu1, hu2⟩ := hm.u
  obtain ⟨aS, nS, cS, rfl, hlS, hRS, hs1, hs2⟩ := hm.s
  obtain ⟨vns, ⟨an, nn, cn, rfl, hln, hRn, hn1, hn2⟩, hvl, hvn⟩ := hm.n
  obtain ⟨ab, nb, cb, rfl, hlb, hRb, hb1, hb2⟩ := hm.b
  simp only at hvl hvn
  rw [List.length_map] at hlu hlS hlb
  have HLU := Lib.hid hlu
  have HLS := Lib.hid hlS
  have HLB := Lib.hid hlb
  have HLV := Lib.hid hln
  have HLN := Lib.hid (show ns.length = nn by omega)
  have HRu := Lib.hid hRu
  have HRS := Lib.hid hRS
  have HRn := Lib.hid hRn
  have HRb := Lib.hid hRb
  have HVN := Lib.hid hvn
  have HCP := Lib.hid (show cu ≤ maxLen ∧ cb ≤ maxLen from ⟨hu2, hb2⟩)
  unfold maxLen at hu2 hs2 hn2 hb2
  have gu : nu ≤ 9223372036854775807 := by omega
  have gS : nS ≤ 9223372036854775807 := by omega
  have gn : nn ≤ 9223372036854775807 := by omega
  have gb : nb ≤ 9223372036854775807 := by omega
  clear hm hlu hlS hlb hln hvl hRu hRS hRn hRb hvn hs1 hs2 hn1 hn2
  unfold mC
  go_enter Tryd.func23, Tryd.ntmps23
  go_upto_region 1 with (fail)
  refine wp_nameF (fun X hX => ?_)
  have HX := Lib.hid (show Mem w [] X [Sp.blk w.heap.size 36 #[.int .i64 kind, .slice au nu cu, .slice aS nS cS, .slice an nn cn, .slice ab nb cb], Sp.blk (w.heap.size + 1) 36 #[.int .i64 0, .slice none 0 0, .slice none 0 0, .slice none 0 0, .slice none 0 0]] by
    rw [hX]
    have h := ((Mem.start w).alloc #[.int .i64 kind, .slice au nu cu, .slice aS nS cS, .slice an nn cn, .slice ab nb cb] 36).alloc #[.int .i64 0, .slice none 0 0, .slice none 0 0, .slice none 0 0, .slice none 0 0] 36
    rw [World.size_alloc] at h
    exact h)
  clear hX
  obtain ⟨ku, hku⟩ : ∃ ku, min nu 9 = ku := ⟨_, rfl⟩
  obtain ⟨kb, hkb⟩ : ∃ kb, min nb 9 = kb := ⟨_, rfl⟩
  have mU : min (nu : Int) 9 = (ku : Int) := by omega
  have mB : min (nb : Int) 9 = (kb : Int) := by omega
  have ku1 : ku ≤ nu := by omega
  have kb1 : kb ≤ nb := by omega
  have ku2 : ku ≤ cu := by omega
  have kb2 : kb ≤ cb := by omega
  have HKU := Lib.hid hku
  have HKB := Lib.hid hkb
  have HKC := Lib.hid (And.intro ku2 kb2)
  clear hku hkb
  refine RT.start (RL.Aft X) 18 1 (by kernel_rfl) (by decide) rfl (by kernel_rfl) (by kernel_rfl) (RL.Aft.drew (RL.Aft.refl X)) ?_
  refine' RT.takeV (i := 0) (v := _) rfl (by kernel_rfl) (by kernel_rfl) (by kernel_rfl) (by decide) (fun _ _ _ h => h) (by rfl) ?hk1 ?_
  case hk1 => (intro W hSW; go_simp; try with_reducible rfl)
  (try simp only [Act.put, List.setIfInBounds_toArray, List.set_cons_zero, List.set_cons_succ])
  refine' RT.takeV (i := 1) (v := _) rfl (by kernel_rfl) (by kernel_rfl) (by kernel_rfl) (by decide) (fun _ _ _ h => h) (by rfl) ?hk2 ?_
  case hk2 => (intro W hSW; have g := ((HX.out.below hSW).blk 0 rfl).cell 0 (v := .int .i64 kind) rfl; go_simp; try with_reducible rfl)
  (try simp only [Act.put, List.setIfInBounds_toArray, List.set_cons_zero, List.set_cons_succ])
  refine' RT.takeV (i := 2) (v := _) rfl (by kernel_rfl) (by kernel_rfl) (by kernel_rfl) (by decide) (fun _ _ _ h => h) (by rfl) ?hk3 ?_
  case hk3 => (intro W hSW; go_simp; try with_reducible rfl)
  (try simp only [Act.put, List.setIfInBounds_toArray, List.set_cons_zero, List.set_cons_succ])
  refine' RT.takeV (i := 3) (v := _) rfl (by kernel_rfl) (by kernel_rfl) (by kernel_rfl) (by decide) (fun _ _ _ h => h) (by rfl) ?hk4 ?_
  case hk4 => (intro W hSW; have g := ((HX.out.below hSW).blk 0 rfl).cell 1 (v := .slice au nu cu) rfl; go_simp; try with_reducible rfl)
  (try simp only [Act.put, List.setIfInBounds_toArray, List.set_cons_zero, List.set_cons_succ])
  refine' RT.takeV (i := 4) (v := _) rfl (by kernel_rfl) (by kernel_rfl) (by kernel_rfl) (by decide) (fun _ _ _ h => h) (by rfl) ?hk5 ?_
  case hk5 => (intro W hSW; go_simp; try with_reducible rfl)
  (try simp only [Act.put, List.setIfInBounds_toArray, List.set_cons_zero, List.set_cons_succ])
  refine' RT.takeV (i := 5) (v := _) rfl (by kernel_rfl) (by kernel_rfl) (by kernel_rfl) (by decide) (fun _ _ _ h => h) (by rfl) ?hk6 ?_
  case hk6 => (intro W hSW; have g := ((HX.out.below hSW).blk 0 rfl).cell 1 (v := .slice au nu cu) rfl; go_simp; try with_reducible rfl)
  (try simp only [Act.put, List.setIfInBounds_toArray, List.set_cons_zero, List.set_cons_succ])
  refine' RT.takeV (i := 6) (v := _) rfl (by kernel_rfl) (by kernel_rfl) (by kernel_rfl) (by decide) (fun _ _ _ h => h) (by rfl) ?hk7 ?_
  case hk7 => (intro W hSW; go_simp; try with_reducible rfl)
  (try simp only [Act.put, List.setIfInBounds_toArray, List.set_cons_zero, List.set_cons_succ])
  refine' RT.takeV (i := 7) (v := _) rfl (by kernel_rfl) (by kernel_rfl) (by kernel_rfl) (by decide) (fun _ _ _ h => h) (by rfl) ?hk8 ?_
  case hk8 => (intro W hSW; go_simp; try with_reducible rfl)
  (try simp only [Act.put, List.setIfInBounds_toArray, List.set_cons_zero, List.set_cons_succ])
  refine' RT.takeV (i := 8) (v := _) rfl (by kernel_rfl) (by kernel_rfl) (by kernel_rfl) (by decide) (fun _ _ _ h => h) (by rfl) ?hk9 ?_
  case hk9 => (intro W hSW; go_simp; try with_reducible rfl)
  (try simp only [Act.put, List.setIfInBounds_toArray, List.set_cons_zero, List.set_cons_succ])
  refine' RT.takeV (i := 9) (v := _) rfl (by kernel_rfl) (by kernel_rfl) (by kernel_rfl) (by decide) (fun _ _ _ h => h) (by rfl) ?hk10 ?_
  case hk10 => (intro W hSW; go_simp; try with_reducible rfl)
  (try simp only [Act.put, List.setIfInBounds_toArray, List.set_cons_zero, List.set_cons_succ])
  refine' RT.takeV (i := 10) (v := _) rfl (by kernel_rfl) (by kernel_rfl) (by kernel_rfl) (by decide) (fun _ _ _ h => h) (by rfl) ?hk11 ?_
  case hk11 => (intro W hSW; have g := ((HX.out.below hSW).blk 0 rfl).cell 4 (v := .slice ab nb cb) rfl; go_simp; try with_reducible rfl)
  (try simp only [Act.put, List.setIfInBounds_toArray, List.set_cons_zero, List.set_cons_succ])
  refine' RT.takeV (i := 11) (v := _) rfl (by kernel_rfl) (by kernel_rfl) (by kernel_rfl) (by decide) (fun _ _ _ h => h) (by rfl) ?hk12 ?_
  case hk12 => (intro W hSW; go_simp; try with_reducible rfl)
  (try simp only [Act.put, List.setIfInBounds_toArray, List.set_cons_zero, List.set_cons_succ])
  refine' RT.takeV (i := 12) (v := _) rfl (by kernel_rfl) (by kernel_rfl) (by kernel_rfl) (by decide) (fun _ _ _ h => h) (by rfl) ?hk13 ?_
  case hk13 => (intro W hSW; have g := ((HX.out.below hSW).blk 0 rfl).cell 4 (v := .slice ab nb cb) rfl; go_simp; try with_reducible rfl)
  (try simp only [Act.put, List.setIfInBounds_toArray, List.set_cons_zero, List.set_cons_succ])
  refine' RT.takeV (i := 13) (v := _) rfl (by kernel_rfl) (by kernel_rfl) (by kernel_rfl) (by decide) (fun _ _ _ h => h) (by rfl) ?hk14 ?_
  case hk14 => (intro W hSW; go_simp; try with_reducible rfl)
  (try simp only [Act.put, List.setIfInBounds_toArray, List.set_cons_zero, List.set_cons_succ])
  refine' RT.takeV (i := 14) (v := _) rfl (by kernel_rfl) (by kernel_rfl) (by kernel_rfl) (by decide) (fun _ _ _ h => h) (by rfl) ?hk15 ?_
  case hk15 => (intro W hSW; go_simp; try with_reducible rfl)
  (try simp only [Act.put, List.setIfInBounds_toArray, List.set_cons_zero, List.set_cons_succ])
  refine' RT.takeV (i := 15) (v := _) rfl (by kernel_rfl) (by kernel_rfl) (by kernel_rfl) (by decide) (fun _ _ _ h => h) (by rfl) ?hk16 ?_
  case hk16 => (intro W hSW; go_simp; try with_reducible rfl)
  (try simp only [Act.put, List.setIfInBounds_toArray, List.set_cons_zero, List.set_cons_succ])
  refine' RT.takeV (i := 16) (v := _) rfl (by kernel_rfl) (by kernel_rfl) (by kernel_rfl) (by decide) (fun _ _ _ h => h) (by rfl) ?hk17 ?_
  case hk17 => (intro W hSW; go_simp; try with_reducible rfl)
  (try simp only [Act.put, List.setIfInBounds_toArray, List.set_cons_zero, List.set_cons_succ])
  refine RT.stepK (i := 17) rfl (by kernel_rfl) (by decide) (by rfl) (fun wa hlwa hswa K hK => ?_)
  have hma := ((HX.out.below hswa).alloc #[.int .i64 0, .slice none 0 0, .slice none 0 0, .slice none 0 0, .slice none 0 0] 36)
  go_simp
  have HMA := Lib.hid hma
  refine hK.out _ _ (RL.Aft.alloc hswa _) ?_
  clear hK hma
  (try simp only [Act.put, List.setIfInBounds_toArray, List.set_cons_zero, List.set_cons_succ])
  refine RT.tail (by kernel_rfl) rfl rfl ?_
  intro wd hlwd hswd
  clear mU mB ku1 kb1 ku2 kb2
  refine Cv.store_blk rfl 36 _ _ rfl wa.heap.size #[.int .i64 kind, .slice au ku cu, .slice none 0 0, .slice none 0 0, .slice ab kb cb] #[.int .i64 0, .slice none 0 0, .slice none 0 0, .slice none 0 0, .slice none 0 0] 36 rfl rfl ((HMA.out.below hlwd).blk 2 rfl) (by kernel_rfl) rfl (by simp [Value.oneCell']) ?_
  intro V hV hgV
  have hmv := ((HMA.out.below hlwd).store 2 rfl hV hgV).nilOwn 9
  simp only [List.cons_append, List.nil_append, List.set_cons_succ, List.set_cons_zero] at hmv
  have HV := Lib.hid hmv
  clear hmv hV hgV hlwd hswd hlwa hswa HMA HX
  generalize wa.heap.size = P at *
  obtain ⟨q, hq⟩ : ∃ q, min nS 9 = q := ⟨_, rfl⟩
  have hq1 : q ≤ 9 := by omega
  have hq2 : q ≤ nS := by omega
  have HQ := Lib.hid hq
  clear hq
  go_wp2_with fail
  go_loopw [4] (fun i wr => ∃ (k : Nat) (vs : Value), k ≤ q ∧ i = .int .i64 k ∧ Mem w [] wr [Sp.blk w.heap.size 36 #[.int .i64 kind, .slice au nu cu, .slice aS nS cS, .slice an nn cn, .slice ab nb cb], Sp.blk (w.heap.size + 1) 36 #[.int .i64 0, .slice none 0 0, .slice none 0 0, .slice none 0 0, .slice none 0 0], Sp.blk P 36 #[.int .i64 kind, .slice au ku cu, vs, .slice none 0 0, .slice ab kb cb], own 9 vs ((ss.take k).map fun s => Value.string (cut 100 s))]) (fun i _ => 20 - (intOf i).toNat)
  case atStart => exact ⟨0, _, Nat.zero_le _, rfl, HV.out⟩
  case round =>
    obtain ⟨k, vs, hk, rfl, hm⟩ := hrel
    have HM := Lib.hid hm
    clear hm HV
    have c0 := (HM.out.blk 0 rfl).cell 2 (v := .slice aS nS cS) rfl
    by_cases hkq : k < q
    · have hkn : k < nS := by omega
      have hki : (k : Int) < nS := by omega
      have hk9 : (k : Int) < 9 := by omega
      have hks : k < ss.length := by have := HLS.out; omega
      obtain ⟨b, o, rfl, hlt, hc⟩ := HRS.out.at_ (j := k) (by rw [List.length_map]; exact hks)
      rw [List.getElem_map] at hc
      obtain ⟨x, hx⟩ : ∃ x, ss[k] = x := ⟨_, rfl⟩
      rw [hx] at hc
      have HXK := Lib.hid hx
      have HC := Lib.hid hc
      have HLT := Lib.hid hlt
      clear hx hc hlt
      have hdk : decide (k < nS) = true := by simp; exact hkn
      go_upto_region 5 with (fail)
      clear c0
      refine RT.start (fun W => ∃ v ys, Mem w [] W [Sp.blk w.heap.size 36 #[.int .i64 kind, .slice au nu cu, .slice (some ⟨b, o, none⟩) nS cS, .slice an nn cn, .slice ab nb cb], Sp.blk (w.heap.size + 1) 36 #[.int .i64 0, .slice none 0 0, .slice none 0 0, .slice none 0 0, .slice none 0 0], Sp.blk P 36 #[.int .i64 kind, .slice au ku cu, vs, .slice none 0 0, .slice ab kb cb], own 9 v ys]) 11 1 (by kernel_rfl) (by decide) rfl (by kernel_rfl) (by kernel_rfl) (⟨_, _, HM.out.drew⟩) ?_
      refine' RT.takeV (i := 0) (v := _) rfl (by kernel_rfl) (by kernel_rfl) (by kernel_rfl) (by decide) (fun _ _ _ h => h) (by rfl) ?hk18 ?_
      case hk18 => (intro W hSW; go_simp; try with_reducible rfl)
      (try simp only [Act.put, List.setIfInBounds_toArray, List.set_cons_zero, List.set_cons_succ])
      refine' RT.takeV (i := 1) (v := _) rfl (by kernel_rfl) (by kernel_rfl) (by kernel_rfl) (by decide) (fun _ _ _ h => h) (by rfl) ?hk19 ?_
      case hk19 => (intro W hSW; obtain ⟨v, ys, hm⟩ := hSW; have g := (hm.blk 2 rfl).cell 2 (v := vs) rfl; go_simp; try with_reducible rfl)
      (try simp only [Act.put, List.setIfInBounds_toArray, List.set_cons_zero, List.set_cons_succ])
      refine' RT.takeV (i := 2) (v := _) rfl (by kernel_rfl) (by kernel_rfl) (by kernel_rfl) (by decide) (fun _ _ _ h => h) (by rfl) ?hk20 ?_
      case hk20 => (intro W hSW; go_simp; try with_reducible rfl)
      (try simp only [Act.put, List.setIfInBounds_toArray, List.set_cons_zero, List.set_cons_succ])
      refine' RT.takeV (i := 3) (v := _) rfl (by kernel_rfl) (by kernel_rfl) (by kernel_rfl) (by decide) (fun _ _ _ h => h) (by rfl) ?hk21 ?_
      case hk21 => (intro W hSW; obtain ⟨v, ys, hm⟩ := hSW; have g := (hm.blk 0 rfl).cell 2 (v := .slice (some ⟨b, o, none⟩) nS cS) rfl; go_simp; try with_reducible rfl)
      (try simp only [Act.put, List.setIfInBounds_toArray, List.set_cons_zero, List.set_cons_succ])
      refine' RT.takeV (i := 4) (v := _) rfl (by kernel_rfl) (by kernel_rfl) (by kernel_rfl) (by decide) (fun _ _ _ h => h) (by rfl) ?hk22 ?_
      case hk22 => (intro W hSW; go_simp; try with_reducible rfl)
      (try simp only [Act.put, List.setIfInBounds_toArray, List.set_cons_zero, List.set_cons_succ])
      refine' RT.takeV (i := 5) (v := _) rfl (by kernel_rfl) (by kernel_rfl) (by kernel_rfl) (by decide) (fun _ _ _ h => h) (by rfl) ?hk23 ?_
      case hk23 => (intro W hSW; go_simp; try with_reducible rfl)
      (try simp only [Act.put, List.setIfInBounds_toArray, List.set_cons_zero, List.set_cons_succ])
      refine' RT.takeV (i := 6) (v := _) rfl (by kernel_rfl) (by kernel_rfl) (by kernel_rfl) (by decide) (fun _ _ _ h => h) (by rfl) ?hk24 ?_
      case hk24 => (intro W hSW; obtain ⟨v, ys, hm⟩ := hSW; have g : W.cell? ⟨b, o + k, none⟩ = some (.string x) := (hm.bel.cell (p := ⟨b, o + k, none⟩) HLT.out).trans HC.out; go_simp; try with_reducible rfl)
      (try simp only [Act.put, List.setIfInBounds_toArray, List.set_cons_zero, List.set_cons_succ])
      refine' RT.takeC (i := 7) (v := .string (cut 100 x)) 33 #[.string x, .int .i64 100] rfl (by kernel_rfl) (by kernel_rfl) (by kernel_rfl) (by decide) (fun _ _ _ h => h) (by rfl) ?hk25 ?hc25 ?_
      case hk25 => (intro W hSW; go_simp; try with_reducible rfl)
      case hc25 => (intro W hSW; exact (Cut_any W x 100 (by decide)).mono fun e w' h => ⟨h.1, h.2 ▸ RL.Lat.refl _, h.2 ▸ hSW⟩)
      (try simp only [Act.put, List.setIfInBounds_toArray, List.set_cons_zero, List.set_cons_succ])
      refine RT.stepK (i := 8) rfl (by kernel_rfl) (by decide) (by rfl) (fun wa hlwa hswa K hK => ?_)
      have hma := (HM.out.drew.below hlwa).allocO (.cells #[.string (cut 100 x)] 9)
      have HRA := Lib.hid (Rd.one wa 9 (.string (cut 100 x)))
      go_simp
      have HMA := Lib.hid hma
      refine hK.out _ _ (⟨_, _, hma⟩) ?_
      clear hK hma
      (try simp only [Act.put, List.setIfInBounds_toArray, List.set_cons_zero, List.set_cons_succ])
      refine RT.stepK (i := 9) rfl (by kernel_rfl) (by decide) (by rfl) (fun wb hlwb hswb K hK => ?_)
      have HMB := Lib.hid (HMA.out.below hlwb)
      refine RT.app1_op _ _ _ rfl Tryd.underlying23 infoStr rfl (by decide) (HMB.out.own 3 rfl) rfl (ys := [.string (cut 100 x)]) rfl rfl (HRA.out.below hlwb) (by simp [Value.oneCell']) (by rw [List.length_map, List.length_take]; simp only [List.length_cons, List.length_nil]; omega) (Nat.zero_le _) ?_
      intro v' w6 ho hg hat
      have hm6 := HMB.out.app 3 rfl ho hg (hat.imp id fun e => ⟨_, e, Nat.le_refl _⟩)
      simp only [List.set_cons_succ, List.set_cons_zero] at hm6
      obtain ⟨A', c', rfl, _, _⟩ := ho.form
      have HM6 := Lib.hid hm6
      refine hK.out _ _ (⟨_, _, hm6⟩) ?_
      clear hK hm6 ho hg hat
      (try simp only [Act.put, List.setIfInBounds_toArray, List.set_cons_zero, List.set_cons_succ])
      refine' RT.takeV (i := 10) (v := _) rfl (by kernel_rfl) (by kernel_rfl) (by kernel_rfl) (by decide) (fun _ _ _ h => h) (by rfl) ?hk26 ?_
      case hk26 => (intro W hSW; go_simp; try with_reducible rfl)
      (try simp only [Act.put, List.setIfInBounds_toArray, List.set_cons_zero, List.set_cons_succ])
      refine RT.tail (by kernel_rfl) rfl rfl ?_
      intro wd hlwd hswd
      have HMD := Lib.hid (HM6.out.below hlwd)
      refine store_slice rfl 23 _ _ rfl rfl rfl Tryd.underlying23 (by kernel_rfl) (HMD.out.blk 2 rfl) rfl ?_
      intro V hV hgV
      have hmv := HMD.out.store 2 rfl hV hgV
      simp only [List.set_cons_succ, List.set_cons_zero, List.setIfInBounds_toArray] at hmv
      rw [← HXK.out, ← take_cut ss 100 k hks] at hmv
      have HN := Lib.hid hmv
      clear hmv hV hgV
      go_wp2_with fail
      go_roundw
      case rel =>
        first
          | exact ⟨k + 1, _, by omega, by go_num, HN.out⟩
          | ((repeat apply Exists.intro); refine ⟨?_, rfl⟩; exact ⟨k + 1, _, by omega, by go_num, HN.out⟩)
      case measure => simp [intOf]; omega
    · obtain rfl : k = q := by omega
      have HSE := Lib.hid (show ((ss.take k).map fun s => Value.string (cut 100 s)) = (few ⟨kind, us, ss, ns, bs⟩).s.map Value.string by
        have h1 := HQ.out; have h2 := HLS.out
        unfold few; simp only [List.map_map]
        have e : ss.take k = ss.take 9 := by
          rw [← h1, ← h2]
          rcases Nat.le_total ss.length 9 with h | h
          · rw [Nat.min_eq_left h, List.take_of_length_le (Nat.le_refl _), List.take_of_length_le h]
          · rw [Nat.min_eq_right h]
        rw [e]; rfl)
      have hm := HM.out
      rw [HSE.out] at hm
      have hm2 := (hm.nilOwn 23).manyNil
      simp only [List.cons_append, List.nil_append] at hm2
      have HV2 := Lib.hid hm2
      clear hm hm2 HM
      obtain ⟨S, hS⟩ : ∃ S, (few ⟨kind, us, ss, ns, bs⟩).s.map Value.string = S := ⟨_, rfl⟩
      rw [hS] at HV2
      have HS := Lib.hid hS
      clear hS
      obtain ⟨q2, hq2⟩ : ∃ q2, min nn 14 = q2 := ⟨_, rfl⟩
      have hq3 : q2 ≤ 14 := by omega
      have hq4 : q2 ≤ nn := by omega
      have HQ2 := Lib.hid hq2
      clear hq2
      have hcase : ((decide (k < nS) = true ∧ decide ((k : Int) < 9) = false) ∨ decide (k < nS) = false) := by
        have h1 := HQ.out
        by_cases h : k < nS
        · left; exact ⟨by simpa using h, by simp; omega⟩
        · right; simpa using h
      go_upto_region 3 with (fail)
      go_cut [33] (fun v wx => v = .bool false ∧ wx = wr)
      case first =>
        rcases hcase with ⟨hd1, hd2⟩ | hd1
        all_goals
          go_wp2_with fail
          go_meet
          exact ⟨rfl, rfl⟩
      case rest =>
        obtain ⟨rfl, hwc⟩ := hcut
        subst hwc
        clear hcase
        go_wp2_with fail
        go_loopw [5] (fun i wr => ∃ k : Nat, k ≤ q2 ∧ i = .int .i64 k ∧ Few2 w P #[.int .i64 kind, .slice au nu cu, .slice aS nS cS, .slice an nn cn, .slice ab nb cb] (fun vn => #[.int .i64 kind, .slice au ku cu, vs, vn, .slice ab kb cb]) vs S ns k wr) (fun i _ => 20 - (intOf i).toNat)
        case atStart => exact ⟨0, Nat.zero_le _, rfl, _, [], rfl, HV2.out⟩
        case round =>
          obtain ⟨k2, hk2, rfl, hfew⟩ := hrel
          obtain ⟨vn, vals, hvals, hm⟩ := hfew
          have HM := Lib.hid hm
          have HVL := Lib.hid hvals
          clear hm HV2 hvals c0
          have c0 := (HM.out.blk 0 rfl).cell 3 (v := .slice an nn cn) rfl
          by_cases hkq : k2 < q2
          · have hkn : k2 < nn := by omega
            have hki : (k2 : Int) < nn := by omega
            have hk9 : (k2 : Int) < 14 := by omega
            have hkl : k2 < ns.length := by have := HLN.out; omega
            obtain ⟨x, hx⟩ : ∃ x, ns[k2] = x := ⟨_, rfl⟩
            obtain ⟨u, hu, hsl⟩ := HVN.out k2 x (by rw [← hx]; exact List.getElem?_eq_getElem hkl)
            obtain ⟨xa, xn, xc, rfl, hxl, hxR, hxc, hxm⟩ := hsl
            rw [List.length_map] at hxl
            obtain ⟨b, o, e, hlt, hc⟩ := HRn.out k2 _ hu
            subst e
            have HXK := Lib.hid hx
            have HXL := Lib.hid hxl
            have HXR := Lib.hid hxR
            have HC := Lib.hid hc
            have HLT := Lib.hid hlt
            unfold maxLen at hxm
            have hxb : xn ≤ 9223372036854775807 := by omega
            clear hx hxl hxR hc hlt hu hxc hxm
            have hdk : decide (k2 < nn) = true := by simp; exact hkn
            obtain ⟨q3, hq3⟩ : ∃ q3, min xn 6 = q3 := ⟨_, rfl⟩
            have hq5 : q3 ≤ 6 := by omega
            have hq6 : q3 ≤ xn := by omega
            have HQ3 := Lib.hid hq3
            clear hq3
            go_wp2_with fail
            have hm3 := HM.out.nilOwn 9
            simp only [List.cons_append, List.nil_append] at hm3
            have HM3 := Lib.hid hm3
            clear hm3
            go_loopw [6, 7] (fun l j wr => ∃ (i : Nat) (v6 : Value) (W2 : World), i ≤ q3 ∧ v6 = l ∧ W2 = wr ∧ j = .int .i64 i ∧ Mem w [] W2 [Sp.blk w.heap.size 36 #[.int .i64 kind, .slice au nu cu, .slice aS nS cS, .slice (some ⟨b, o, none⟩) nn cn, .slice ab nb cb], Sp.blk (w.heap.size + 1) 36 #[.int .i64 0, .slice none 0 0, .slice none 0 0, .slice none 0 0, .slice none 0 0], Sp.blk P 36 #[.int .i64 kind, .slice au ku cu, vs, vn, .slice ab kb cb], own 9 vs S, own 23 vn vals, many (lists vals ((ns.take k2).map fewN)), own 9 v6 ((x.take i).map fun s => Value.string (cut 70 s))]) (fun _ j _ => 20 - (intOf j).toNat)
            case atStart => exact ⟨0, _, _, Nat.zero_le _, rfl, rfl, rfl, HM3.out⟩
            case round =>
              obtain ⟨i, v6, wr2, hi, rfl, rfl, rfl, hm⟩ := hrel
              have HM := Lib.hid hm
              clear hm HM3 c0
              have c0 := (HM.out.blk 0 rfl).cell 3 (v := .slice (some ⟨b, o, none⟩) nn cn) rfl
              have c1 : wr2.cell? ⟨b, o + k2, none⟩ = some (.slice xa xn xc) := (HM.out.bel.cell (p := ⟨b, o + k2, none⟩) HLT.out).trans HC.out
              by_cases hiq : i < q3
              · have hin : i < xn := by omega
                have hii : (i : Int) < xn := by omega
                have hi6 : (i : Int) < 6 := by omega
                have hil : i < x.length := by have := HXL.out; omega
                obtain ⟨b2, o2, rfl, hlt2, hc2⟩ := HXR.out.at_ (j := i) (by rw [List.length_map]; exact hil)
                rw [List.getElem_map] at hc2
                obtain ⟨y, hy⟩ : ∃ y, x[i] = y := ⟨_, rfl⟩
                rw [hy] at hc2
                have HY := Lib.hid hy
                have c2 : wr2.cell? ⟨b2, o2 + i, none⟩ = some (.string y) := (HM.out.bel.cell (p := ⟨b2, o2 + i, none⟩) hlt2).trans hc2
                clear hy hc2 hlt2
                have hdi : decide (i < xn) = true := by simp; exact hin
                go_wp2_with (first
                  | (go_at_call 33; refine (Cut_any _ y 70 (by decide)).mono ?_; rintro e w2 ⟨rfl, rfl⟩; skip)
                  | (at_builtin; refine app1 rfl _ _ _ rfl Tryd.underlying23 infoStr rfl (by decide) (HM.out.own 6 rfl) rfl rfl (by simp [Value.oneCell']) (by rw [List.length_map, List.length_take]; omega) (Nat.zero_le _) ?_
                     intro v' w6 ho hg hat
                     have hm6 := HM.out.app 6 rfl ho hg (hat.imp id fun e => ⟨_, e, Nat.le_succ _⟩)
                     simp only [List.set_cons_succ, List.set_cons_zero] at hm6
                     have HN := Lib.hid hm6
                     clear ho hg hat hm6))
                have hn := HN.out
                rw [← HY.out, show x[i].extract 0 70 = cut 70 x[i] from rfl, ← take_cut x 70 i hil] at hn
                have HN2 := Lib.hid hn
                clear hn HN
                go_roundw
                case rel =>
                  first
                    | exact ⟨i + 1, _, _, by omega, rfl, rfl, by go_num, HN2.out⟩
                    | ((repeat apply Exists.intro); refine ⟨?_, rfl⟩; exact ⟨i + 1, _, _, by omega, rfl, rfl, by go_num, HN2.out⟩)
                case measure => simp [intOf]; omega
              · obtain rfl : i = q3 := by omega
                have HSE := Lib.hid (show ((x.take i).map fun s => Value.string (cut 70 s)) = (fewN x).map Value.string by
                  have h1 := HQ3.out; have h2 := HXL.out
                  unfold fewN; simp only [List.map_map]
                  have e : x.take i = x.take 6 := by
                    rw [← h1, ← h2]
                    rcases Nat.le_total x.length 6 with h | h
                    · rw [Nat.min_eq_left h, List.take_of_length_le (Nat.le_refl _), List.take_of_length_le h]
                    · rw [Nat.min_eq_right h]
                  rw [e]; rfl)
                have hm := HM.out
                rw [HSE.out] at hm
                have hfl : (fewN x).length ≤ 6 := by unfold fewN; rw [List.length_map, List.length_take]; omega
                obtain ⟨A6, c6, rfl, hr6, hlc6⟩ := (hm.own 6 rfl).form
                clear hr6 hlc6
                rw [List.length_map] at hm ⊢
                generalize hn6 : (fewN x).length = n6 at hm ⊢
                have HM := Lib.hid hm
                clear hm
                have p3 := (HM.out.blk 2 rfl).cell 3 (v := vn) rfl
                have hcase2 : ((decide (i < xn) = true ∧ decide ((i : Int) < 6) = false) ∨ decide (i < xn) = false) := by
                  have h1 := HQ3.out
                  by_cases h : i < xn
                  · left; exact ⟨by simpa using h, by simp; omega⟩
                  · right; simpa using h
                clear hn6 hfl
                go_upto_region 11 with (fail)
                go_cut [69] (fun v wx => v = .bool false ∧ wx = wr2)
                case first =>
                  rcases hcase2 with ⟨hd1, hd2⟩ | hd1
                  all_goals
                    go_wp2_with fail
                    go_meet
                    exact ⟨rfl, rfl⟩
                case rest =>
                  obtain ⟨rfl, hwc⟩ := hcut
                  subst hwc
                  clear hcase2
                  go_wp2_with (first
                    | (at_builtin; refine app1 rfl _ _ _ rfl Tryd.underlying29 infoStrs rfl (by decide) (HM.out.own 4 rfl) rfl rfl (by simp [Value.oneCell']) (by rw [HVL.out]; omega) (Nat.zero_le _) ?_
                       intro v' w6 ho hg hat
                       have hm6 := HM.out.app 4 rfl ho hg (hat.imp id fun e => ⟨_, e, Nat.le_succ _⟩)
                       simp only [List.set_cons_succ, List.set_cons_zero] at hm6
                       obtain ⟨A', c', rfl, _, _⟩ := ho.form
                       simp only [List.length_append, List.length_cons, List.length_nil, Nat.zero_add] at hm6
                       have HM7 := Lib.hid hm6
                       clear ho hg hat hm6)
                    | (refine store_slice rfl 29 _ _ rfl rfl rfl Tryd.underlying29 (by kernel_rfl) (HM7.out.blk 2 rfl) rfl ?_
                       intro V hV hgV
                       have hmv := HM7.out.store 2 rfl hV hgV
                       simp only [List.set_cons_succ, List.set_cons_zero, List.setIfInBounds_toArray] at hmv
                       have HN := Lib.hid hmv
                       clear hmv hV hgV))
                  have hn := Mem.absorb (L := [Sp.blk w.heap.size 36 _, Sp.blk (w.heap.size + 1) 36 _, Sp.blk P 36 _, own 9 vs S, own 23 _ _]) HN.out
                  have HN2 := Lib.hid (show Few2 w P _ (fun vn => #[.int .i64 kind, .slice au ku cu, vs, vn, .slice ab kb cb]) vs S ns (k2 + 1) V from ⟨_, vals ++ [.slice A6 n6 c6], by rw [List.length_append, HVL.out]; rfl, by
                    rw [take_few ns k2 hkl, HXK.out, lists_snoc _ _ _ _ (by rw [HVL.out, List.length_map, List.length_take]; omega)]
                    exact hn⟩)
                  clear hn HN
                  go_roundw
                  case rel =>
                    first
                      | exact ⟨k2 + 1, by omega, by go_num, HN2.out⟩
                      | ((repeat apply Exists.intro); refine ⟨?_, rfl⟩; exact ⟨k2 + 1, by omega, by go_num, HN2.out⟩)
                  case measure => simp [intOf]; omega
          · obtain rfl : k2 = q2 := by omega
            have hcase3 : ((decide (k2 < nn) = true ∧ decide ((k2 : Int) < 14) = false) ∨ decide (k2 < nn) = false) := by
              have h1 := HQ2.out
              by_cases h : k2 < nn
              · left; exact ⟨by simpa using h, by simp; omega⟩
              · right; simpa using h
            have HNE := Lib.hid (show (ns.take k2).map fewN = (few ⟨kind, us, ss, ns, bs⟩).n by
              have h1 := HQ2.out; have h2 := HLN.out
              unfold few; simp only
              have e : ns.take k2 = ns.take 14 := by
                rw [← h1, ← h2]
                rcases Nat.le_total ns.length 14 with h | h
                · rw [Nat.min_eq_left h, List.take_of_length_le (Nat.le_refl _), List.take_of_length_le h]
                · rw [Nat.min_eq_right h]
              rw [e])
            have HVE := Lib.hid (show vals.length = (few ⟨kind, us, ss, ns, bs⟩).n.length by rw [HVL.out, ← HNE.out, List.length_map, List.length_take]; have := HLN.out; omega)
            have hm := HM.out
            rw [HNE.out, ← HS.out] at hm
            have hvs := (hm.own 3 rfl).form
            have hvn := (hm.own 4 rfl).form
            obtain ⟨A3, c3, rfl, _, _⟩ := hvs
            obtain ⟨A4, c4, rfl, _, _⟩ := hvn
            generalize ((few ⟨kind, us, ss, ns, bs⟩).s.map Value.string).length = n3 at hm
            generalize vals.length = n4 at hm
            have HM := Lib.hid hm
            clear hm
            have HP2 := Lib.hid (HM.out.blk 2 rfl)
            go_upto_region 7 with (fail)
            go_cut [55] (fun v wx => v = .bool false ∧ wx = wr)
            case first =>
              rcases hcase3 with ⟨hd1, hd2⟩ | hd1
              all_goals
                go_wp2_with fail
                go_meet
                exact ⟨rfl, rfl⟩
            case rest =>
              obtain ⟨rfl, hwc⟩ := hcut
              subst hwc
              clear hcase3
              go_wp2_with (first
                | (refine wpList_load_row rfl 36 _ rfl _ rfl _ _ _ _ HP2.out Tryd.underlying36 rfl (by kernel_rfl) ?_; skip)
                | (refine Cv.store_blk rfl 36 _ _ rfl (w.heap.size + 1) #[.int .i64 kind, .slice au ku cu, .slice A3 n3 c3, .slice A4 n4 c4, .slice ab kb cb] #[.int .i64 0, .slice none 0 0, .slice none 0 0, .slice none 0 0, .slice none 0 0] 36 rfl rfl (HM.out.blk 1 rfl) (by kernel_rfl) rfl (by simp [Value.oneCell']) ?_
                   intro V hV hgV
                   have hmv := HM.out.store 1 rfl hV hgV
                   simp only [List.set_cons_succ, List.set_cons_zero] at hmv
                   have HZ := Lib.hid hmv
                   have z0 := hV.cell 0 (v := .int .i64 kind) rfl
                   have z1 := hV.cell 1 (v := .slice au ku cu) rfl
                   have z2 := hV.cell 2 (v := .slice A3 n3 c3) rfl
                   have z3 := hV.cell 3 (v := .slice A4 n4 c4) rfl
                   have z4 := hV.cell 4 (v := .slice ab kb cb) rfl
                   clear hmv hV hgV))
              refine bodyPost_ret (v := .agg #[.int .i64 kind, .slice au ku cu, .slice A3 n3 c3, .slice A4 n4 c4, .slice ab kb cb]) (by simp [results, Tryd.results23, go_sem, z0, z1, z2, z3, z4]) rfl ?_
              exact FewPost.mk (m := ⟨kind, us, ss, ns, bs⟩) H0.out HM0.out.u HM0.out.b HKU.out HKB.out HVE.out HZ.out
end Go.Proofs.YtjfikbnfabdkoaaDoor.Mg
