/- The reference's Check. -/
import Derived.Test.YtjfikbnfabdkoaaDoorMsgRef0
import Derived.Test.YtjfikbnfabdkoaaDoorMsgByt
set_option linter.unusedVariables false
set_option linter.unusedSimpArgs false
namespace Go.Proofs.YtjfikbnfabdkoaaDoor.Mg
open Go.RowKit Go.Proofs.YtjfikbnfabdkoaaDoor.Wi Go.Proofs.YtjfikbnfabdkoaaDoor.Ow Go.Proofs.YtjfikbnfabdkoaaDoor.Be
/-- letters of no number, list or word -/
def cntO (l : List UInt8) : Nat := l.countP fun c => decide (c ≠ 117) && decide (c ≠ 110) && decide (c ≠ 98)
theorem cntO_good : ∀ l : List UInt8, goodL l = true → cntO l = cntS l
  | [], _ => rfl
  | c :: l, h => by
    simp only [goodL, Bool.and_eq_true, Bool.or_eq_true, decide_eq_true_eq] at h
    have ih := cntO_good l h.2
    unfold cntO cntS at *
    rcases h.1.2 with ((((h | h) | h) | h) | h) | h <;> subst h <;> simp [List.countP_cons, List.count_cons] at ih ⊢ <;> omega
theorem take_snoc (l : List UInt8) (k : Nat) (c : UInt8) (h : l[k]? = some c) : l.take (k + 1) = l.take k ++ [c] := by rw [List.take_add_one, h]; rfl
theorem count_take (l : List UInt8) (k : Nat) (c d : UInt8) (h : l[k]? = some c) : (l.take (k + 1)).count d = (l.take k).count d + if c = d then 1 else 0 := by
  rw [take_snoc l k c h, List.count_append, List.count_singleton]; simp
theorem cntO_take (l : List UInt8) (k : Nat) (c : UInt8) (h : l[k]? = some c) : cntO (l.take (k + 1)) = cntO (l.take k) + if c ≠ 117 ∧ c ≠ 110 ∧ c ≠ 98 then 1 else 0 := by
  unfold cntO
  rw [take_snoc l k c h, List.countP_append, List.countP_singleton]
  simp [and_assoc]
theorem count_le (l : List UInt8) (k : Nat) (d : UInt8) : (l.take k).count d ≤ k := Nat.le_trans List.count_le_length (by rw [List.length_take]; omega)
theorem cntO_le (l : List UInt8) (k : Nat) : cntO (l.take k) ≤ k := Nat.le_trans List.countP_le_length (by rw [List.length_take]; omega)
/-- at letter k, with s texts behind -/
structure TxtAt (l : List UInt8) (S : List ByteArray) (k s : Nat) (big : Bool) : Prop where
  ls : (S.drop s).length = cntS (l.drop k)
  sl : s ≤ S.length
  w : wS l S = wS (l.drop k) (S.drop s)
  b : bS l S = (big || bS (l.drop k) (S.drop s))
theorem TxtAt.skip {l : List UInt8} {S : List ByteArray} {k s : Nat} {big : Bool} (h : TxtAt l S k s big) {c : UInt8} (hc : l[k]? = some c) (h1 : c ≠ 99) (h2 : c ≠ 115) (h3 : c ≠ 114) : TxtAt l S (k + 1) s big := by
  have hd := drop_cons l k c hc
  obtain ⟨a, b, c', d⟩ := h
  rw [hd] at a c' d
  exact ⟨by unfold cntS at *; simpa [List.count_cons, h1, h2, h3] using a, b, by simpa [wS, h1, h2, h3] using c', by simpa [bS, h1, h2, h3] using d⟩
theorem TxtAt.next {l : List UInt8} {S : List ByteArray} {k s : Nat} {big : Bool} (h : TxtAt l S k s big) {c : UInt8} (hc : l[k]? = some c) (h1 : c = 99 ∨ c = 115 ∨ c = 114) :
    ∃ x, S[s]? = some x ∧ (c = 99 → x.size ≠ 16 → wS l S = true) ∧ ((c = 99 → x.size = 16) → TxtAt l S (k + 1) (s + 1) (if c = 99 then big else big || decide (32768 < x.size))) := by
  have hd := drop_cons l k c hc
  obtain ⟨a, b, c', d⟩ := h
  rw [hd] at a c' d
  have hs : s < S.length := by
    rcases h1 with rfl | rfl | rfl <;> simp [cntS] at a <;> omega
  have he := List.drop_eq_getElem_cons hs
  have hx0 : S[s]? = some S[s] := List.getElem?_eq_getElem hs
  rw [he] at a c' d
  clear he
  generalize S[s] = x at *
  refine ⟨x, hx0, fun e hx => ?_, fun hx => ⟨?_, hs, ?_, ?_⟩⟩
  · subst e; rw [c']; simp [wS, Mg.hd, hx]
  · rcases h1 with rfl | rfl | rfl <;> simp [cntS] at a ⊢ <;> omega
  · rcases h1 with rfl | rfl | rfl
    · have := hx rfl; rw [c']; simp [wS, Mg.hd, this]
    · rw [c']; simp [wS]
    · rw [c']; simp [wS]
  · rcases h1 with rfl | rfl | rfl
    · rw [d]; simp [bS]
    · rw [d]; simp [bS, Mg.hd, Bool.or_assoc]
    · rw [d]; simp [bS, Mg.hd, Bool.or_assoc]
def refR (l : List UInt8) (S : List ByteArray) (N : List (List ByteArray)) : Nat := if wS l S then 1 else if wN N then 1 else if bS l S || bN N then 4 else 0
theorem wN_bad {N : List (List ByteArray)} {j : Nat} {x : List ByteArray} (h : N[j]? = some x) (hx : x.all okN = false) : wN N = true := by
  unfold wN; rw [List.any_eq_true]; exact ⟨x, List.mem_of_getElem? h, by rw [hx]; rfl⟩
theorem wN_take {N : List (List ByteArray)} {j : Nat} {x : List ByteArray} (h : N[j]? = some x) (h0 : wN (N.take j) = false) (hx : x.all okN = true) : wN (N.take (j + 1)) = false := by
  unfold wN at *; rw [List.take_add_one, h]; simp only [List.any_append, h0, Option.toList_some, List.any_cons, hx, List.any_nil]; rfl
theorem bN_take {N : List (List ByteArray)} {j : Nat} {x : List ByteArray} (h : N[j]? = some x) : bN (N.take (j + 1)) = (bN (N.take j) || decide (4096 < (joinC x).length)) := by
  unfold bN at *; rw [List.take_add_one, h]; simp
set_option maxRecDepth 20000 in
set_option maxHeartbeats 16000000 in
theorem RefCheck_any (w : World) (m : Msg) (vu vs vn vb : Value) (hm : IsMsg w m vu vs vn vb) (hf : Fit m) :
    Calls Tryd.prog 29 #[.agg (mC m.kind vu vs vn vb)] w fun e w' => e = .returned (.int .i64 (checkC m : Nat)) ∧ Below w.heap.size w w' := by
  rw [← refC_eq]
  obtain ⟨kind, us, ss, ns, bs⟩ := m
  have HM := Lib.hid hm
  have HF := Lib.hid hf
  obtain ⟨l, hl⟩ : ∃ l, ltr kind = l := ⟨_, rfl⟩
  obtain ⟨is, his⟩ : ∃ is, isK kind = is := ⟨_, rfl⟩
  obtain ⟨ls, hls⟩ : ∃ ls, mkS l = ls := ⟨_, rfl⟩
  have HL := Lib.hid hl
  have HIS := Lib.hid his
  have HLL := Lib.hid (show l.length ≤ 100 by rw [← hl]; exact ltr_len kind)
  have HLZ := Lib.hid (show ls.size = l.length by rw [← hls]; exact mkS_size l)
  have HLG := Lib.hid (show ls.data.toList = l by rw [← hls]; exact mkS_list l)
  have HGD := Lib.hid (show goodL l = true by rw [← hl]; exact ltr_good kind)
  have HFI := Lib.hid (show ∀ W, Calls Tryd.prog 20 #[.int .i64 kind] W fun e w' => e = .returned (.tuple #[.string ls, .bool is]) ∧ W = w' from fun W => by
    have := RefFields_any W kind
    rw [hl, his, hls] at this; exact this)
  obtain ⟨au, nu, cu, rfl, hlu, _⟩ := hm.u
  obtain ⟨aS, nS, cs, rfl, hlS, hRS, _⟩ := hm.s
  obtain ⟨vns, ⟨an, nn, cn, rfl, hln0, hRN, hcn1, hcn2⟩, hln, hvn⟩ := hm.n
  have hnm : nn ≤ 9223372036854775807 := by unfold maxLen at hcn2; omega
  clear hcn1 hcn2
  obtain ⟨ab, nb, cb, rfl, hlb, _⟩ := hm.b
  simp only [List.length_map] at hlu hlS hlb
  have HLU := Lib.hid hlu
  have HLT := Lib.hid hlS
  have HLN := Lib.hid (show ns.length = nn from hln.symm.trans hln0)
  have HLB := Lib.hid hlb
  have HVN := Lib.hid hvn
  have HRS := Lib.hid hRS
  have HRN := Lib.hid hRN
  have HVL := Lib.hid hln0
  have hA0 : Below w.heap.size w (w.alloc (.cells #[.int .i64 kind, .slice au nu cu, .slice aS nS cs, .slice an nn cn, .slice ab nb cb] 36)) := (Below.refl _ _).alloc (Nat.le_refl _) _
  have hB0 : Rg.Blk (w.alloc (.cells #[.int .i64 kind, .slice au nu cu, .slice aS nS cs, .slice an nn cn, .slice ab nb cb] 36)) w.heap.size 36 #[.int .i64 kind, .slice au nu cu, .slice aS nS cs, .slice an nn cn, .slice ab nb cb] := Rg.Blk.new w _ _
  have HA0 := Lib.hid hA0
  have HB0 := Lib.hid hB0
  clear hm hf hl his hls hlu hlS hln0 hln hlb hvn hRS hRN hA0 hB0
  unfold mC
  cases is with
  | false =>
    have HC := Lib.hid (show refC ⟨kind, us, ss, ns, bs⟩ = 20 by unfold refC; rw [if_pos HIS.out])
    go_enter Tryd.func29, Tryd.ntmps29
    go_wp2_with (go_at_call 20; refine (HFI.out _).mono ?_; rintro e w1 ⟨rfl, rfl⟩; skip)
    go_ret
    exact ⟨by rw [HC.out]; rfl, HA0.out⟩
  | true =>
    obtain ⟨ok, hok⟩ : ∃ ok, (decide (nu = l.count 117) && decide (nS = cntS l) && decide (nn = l.count 110) && decide (nb = l.count 98)) = ok := ⟨_, rfl⟩
    have HCT := Lib.hid (show counted (ltr kind) ⟨kind, us, ss, ns, bs⟩ = ok by unfold counted; rw [HL.out]; simp only; rw [HLU.out, HLT.out, HLN.out, HLB.out]; exact hok)
    have HOK := Lib.hid hok
    clear hok
    obtain ⟨q, hq⟩ : ∃ q, l.length = q := ⟨_, rfl⟩
    have hq1 : q ≤ 100 := by rw [← hq]; exact HLL.out
    have HLQ := Lib.hid (HLZ.out.trans hq)
    have HQ := Lib.hid hq
    clear hq
    go_enter Tryd.func29, Tryd.ntmps29
    go_wp2_with (go_at_call 20; refine (HFI.out _).mono ?_; rintro e w1 ⟨rfl, rfl⟩; skip)
    obtain ⟨X, hX⟩ : ∃ X, X = w.alloc (.cells #[.int .i64 kind, .slice au nu cu, .slice aS nS cs, .slice an nn cn, .slice ab nb cb] 36) := ⟨_, rfl⟩
    rw [← hX] at HA0 HB0 ⊢
    have x1 := HB0.out.cell 1 (v := .slice au nu cu) rfl
    have x2 := HB0.out.cell 2 (v := .slice aS nS cs) rfl
    have x3 := HB0.out.cell 3 (v := .slice an nn cn) rfl
    have x4 := HB0.out.cell 4 (v := .slice ab nb cb) rfl
    clear hX
    go_loop [5, 6, 7, 8, 9] (fun v5 v6 v7 v8 i => ∃ k : Nat, k ≤ q ∧ i = .int .i64 k ∧ v5 = .int .i64 ((l.take k).count 117 : Nat) ∧ v6 = .int .i64 (cntO (l.take k) : Nat) ∧ v7 = .int .i64 ((l.take k).count 110 : Nat) ∧ v8 = .int .i64 ((l.take k).count 98 : Nat)) (fun _ _ _ _ i => 200 - (intOf i).toNat)
    case atStart => exact ⟨0, Nat.zero_le _, rfl, rfl, rfl, rfl, rfl⟩
    case round =>
      obtain ⟨k, hk, rfl, rfl, rfl, rfl, rfl⟩ := hrel
      by_cases hkq : k < q
      · have hlz2 := HLQ.out
        have hks : k < ls.size := by omega
        have hik : (k : Int) < ls.size := by omega
        have hd0 : decide (k < ls.size) = true := by simp; exact hks
        have hx : l[k]? = some ls[k] := by rw [← HLG.out]; exact get_list ls k hks
        clear hlz2
        generalize hxx : ls[k] = x at *
        have b1 := count_le l k 117
        have b2 := cntO_le l k
        have b3 := count_le l k 110
        have b4 := count_le l k 98
        have C1 := Lib.hid (count_take l k x 117 hx)
        have C2 := Lib.hid (cntO_take l k x hx)
        have C3 := Lib.hid (count_take l k x 110 hx)
        have C4 := Lib.hid (count_take l k x 98 hx)
        clear hx
        generalize (l.take k).count 117 = q1 at *
        generalize cntO (l.take k) = q2 at *
        generalize (l.take k).count 110 = q3 at *
        generalize (l.take k).count 98 = q4 at *
        by_cases h117 : x = 117
        · subst h117
          have e117 : (((117 : UInt8).toNat : Int) == 117) = true := rfl
          go_wp2_with fail
          go_round
          case rel =>
            first
              | exact ⟨k + 1, by omega, by go_num, by rw [C1.out]; rfl, by rw [C2.out]; rfl, by rw [C3.out]; rfl, by rw [C4.out]; rfl⟩
              | ((repeat apply Exists.intro); refine ⟨?_, rfl⟩; exact ⟨k + 1, by omega, by go_num, by rw [C1.out]; rfl, by rw [C2.out]; rfl, by rw [C3.out]; rfl, by rw [C4.out]; rfl⟩)
          case measure => simp [intOf]; omega
        by_cases h110 : x = 110
        · subst h110
          have e117 : (((110 : UInt8).toNat : Int) == 117) = false := rfl
          have e110 : (((110 : UInt8).toNat : Int) == 110) = true := rfl
          go_wp2_with fail
          go_round
          case rel =>
            first
              | exact ⟨k + 1, by omega, by go_num, by rw [C1.out]; rfl, by rw [C2.out]; rfl, by rw [C3.out]; rfl, by rw [C4.out]; rfl⟩
              | ((repeat apply Exists.intro); refine ⟨?_, rfl⟩; exact ⟨k + 1, by omega, by go_num, by rw [C1.out]; rfl, by rw [C2.out]; rfl, by rw [C3.out]; rfl, by rw [C4.out]; rfl⟩)
          case measure => simp [intOf]; omega
        by_cases h98 : x = 98
        · subst h98
          have e117 : (((98 : UInt8).toNat : Int) == 117) = false := rfl
          have e110 : (((98 : UInt8).toNat : Int) == 110) = false := rfl
          have e98 : (((98 : UInt8).toNat : Int) == 98) = true := rfl
          go_wp2_with fail
          go_round
          case rel =>
            first
              | exact ⟨k + 1, by omega, by go_num, by rw [C1.out]; rfl, by rw [C2.out]; rfl, by rw [C3.out]; rfl, by rw [C4.out]; rfl⟩
              | ((repeat apply Exists.intro); refine ⟨?_, rfl⟩; exact ⟨k + 1, by omega, by go_num, by rw [C1.out]; rfl, by rw [C2.out]; rfl, by rw [C3.out]; rfl, by rw [C4.out]; rfl⟩)
          case measure => simp [intOf]; omega
        have EQ := Lib.hid (show ∀ c : UInt8, x ≠ c → ((x.toNat : Int) == c.toNat) = false from fun c hc => by rw [beq_eq_false_iff_ne]; intro e; exact hc (UInt8.toNat_inj.1 (by omega)))
        have e117 : ((x.toNat : Int) == 117) = false := EQ.out 117 h117
        have e110 : ((x.toNat : Int) == 110) = false := EQ.out 110 h110
        have e98 : ((x.toNat : Int) == 98) = false := EQ.out 98 h98
        have D1 := Lib.hid (show (if x = 117 then 1 else 0) = 0 from if_neg h117)
        have D2 := Lib.hid (show (if x ≠ 117 ∧ x ≠ 110 ∧ x ≠ 98 then 1 else 0) = 1 from if_pos ⟨h117, h110, h98⟩)
        have D3 := Lib.hid (show (if x = 110 then 1 else 0) = 0 from if_neg h110)
        have D4 := Lib.hid (show (if x = 98 then 1 else 0) = 0 from if_neg h98)
        clear h117 h110 h98
        go_wp2_with fail
        go_round
        case rel =>
          first
            | exact ⟨k + 1, by omega, by go_num, by rw [C1.out, D1.out]; rfl, by rw [C2.out, D2.out]; rfl, by rw [C3.out, D3.out]; rfl, by rw [C4.out, D4.out]; rfl⟩
            | ((repeat apply Exists.intro); refine ⟨?_, rfl⟩; exact ⟨k + 1, by omega, by go_num, by rw [C1.out, D1.out]; rfl, by rw [C2.out, D2.out]; rfl, by rw [C3.out, D3.out]; rfl, by rw [C4.out, D4.out]; rfl⟩)
        case measure => simp [intOf]; omega
      · obtain rfl : k = q := by omega
        have HLQ2 := Lib.hid HLQ.out
        have hd0 : decide (k < ls.size) = false := by have := HLQ2.out; simp; omega
        have hnk : ¬ k < ls.size := by have := HLQ2.out; omega
        have htk : l.take k = l := List.take_of_length_le (Nat.le_of_eq HQ.out)
        rw [htk, cntO_good l HGD.out]
        have HOK2 := Lib.hid HOK.out
        generalize hq1' : l.count 117 = q1 at *
        generalize hq2' : cntS l = q2 at *
        generalize hq3' : l.count 110 = q3 at *
        generalize hq4' : l.count 98 = q4 at *
        have hcs : (¬ q1 = nu ∨ ¬ q2 = nS ∨ ¬ q3 = nn ∨ ¬ q4 = nb) ∧ ok = false ∨ q1 = nu ∧ q2 = nS ∧ q3 = nn ∧ q4 = nb ∧ ok = true := by
          have := HOK2.out
          by_cases a1 : nu = q1 <;> by_cases a2 : nS = q2 <;> by_cases a3 : nn = q3 <;> by_cases a4 : nb = q4 <;> simp [a1, a2, a3, a4] at this ⊢ <;> first | omega | (simp [this]; omega) | simp [this]
        have HQ1 := Lib.hid hq1'
        have HQ2 := Lib.hid hq2'
        have HQ3 := Lib.hid hq3'
        have HQ4 := Lib.hid hq4'
        clear htk hq1' hq2' hq3' hq4'
        rcases hcs with ⟨hcs, rfl⟩ | ⟨e1, e2, e3, e4, rfl⟩
        · have HC := Lib.hid (show refC ⟨kind, us, ss, ns, bs⟩ = 1 by unfold refC; rw [if_neg (by rw [HIS.out]; decide), if_pos HCT.out])
          by_cases a1 : q1 = nu
          · have t1 : ((q1 : Int) != nu) = false := by simp; omega
            by_cases a2 : q2 = nS
            · have t2 : ((q2 : Int) != nS) = false := by simp; omega
              by_cases a3 : q3 = nn
              · have t3 : ((q3 : Int) != nn) = false := by simp; omega
                have t4 : ((q4 : Int) != nb) = true := by rw [bne_iff_ne]; omega
                clear hcs a1 a2 a3
                go_wp2_with fail
                go_ret
                exact ⟨by rw [HC.out]; rfl, HA0.out⟩
              · have t3 : ((q3 : Int) != nn) = true := by rw [bne_iff_ne]; omega
                clear hcs a1 a2 a3
                go_wp2_with fail
                go_ret
                exact ⟨by rw [HC.out]; rfl, HA0.out⟩
            · have t2 : ((q2 : Int) != nS) = true := by rw [bne_iff_ne]; omega
              clear hcs a1 a2
              go_wp2_with fail
              go_ret
              exact ⟨by rw [HC.out]; rfl, HA0.out⟩
          · have t1 : ((q1 : Int) != nu) = true := by rw [bne_iff_ne]; omega
            clear hcs a1
            go_wp2_with fail
            go_ret
            exact ⟨by rw [HC.out]; rfl, HA0.out⟩
        · have HC := Lib.hid (show refC ⟨kind, us, ss, ns, bs⟩ = refR l ss ns by unfold refC refR; rw [if_neg (by rw [HIS.out]; decide), if_neg (by rw [HCT.out]; decide)]; simp only; rw [HL.out])
          have t1 : ((q1 : Int) != nu) = false := by simp; omega
          have t2 : ((q2 : Int) != nS) = false := by simp; omega
          have t3 : ((q3 : Int) != nn) = false := by simp; omega
          have t4 : ((q4 : Int) != nb) = false := by simp; omega
          have HST := Lib.hid (show TxtAt l ss 0 0 false from ⟨by rw [List.drop_zero, List.drop_zero, HLT.out, HQ2.out]; omega, Nat.zero_le _, rfl, rfl⟩)
          have hnS : nS ≤ 100 := by have := cntO_le l l.length; rw [List.take_length, cntO_good l HGD.out] at this; have := HQ2.out; have := HQ.out; omega
          clear e1 e2 e3 e4
          go_wp2_with fail
          clear t1 t2 t3 t4
          go_loop [6, 10, 11] (fun v6 v10 i => ∃ (k2 s : Nat) (big : Bool), k2 ≤ k ∧ s ≤ nS ∧ i = .int .i64 k2 ∧ v6 = .int .i64 s ∧ v10 = .bool big ∧ TxtAt l ss k2 s big) (fun _ _ i => 200 - (intOf i).toNat)
          case atStart => exact ⟨0, 0, false, Nat.zero_le _, Nat.zero_le _, rfl, rfl, rfl, HST.out⟩
          case round =>
            obtain ⟨k2, s, big, hk2, hs, rfl, rfl, rfl, hat⟩ := hrel
            have HAT := Lib.hid hat
            clear hat
            by_cases hkq2 : k2 < k
            · have hlz2 := HLQ.out
              have hks : k2 < ls.size := by omega
              have hik : (k2 : Int) < ls.size := by omega
              have hd1 : decide (k2 < ls.size) = true := by simp; exact hks
              have hx : l[k2]? = some ls[k2] := by rw [← HLG.out]; exact get_list ls k2 hks
              clear hlz2
              generalize hxx : ls[k2] = x at *
              have HX1 := Lib.hid hx
              clear hx
              by_cases h99 : x = 99
              · subst h99
                have e99 : (((99 : UInt8).toNat : Int) != 99) = false := rfl
                have f99 : (((99 : UInt8).toNat : Int) == 99) = true := rfl
                obtain ⟨y, hy, hbad, hgood⟩ := HAT.out.next HX1.out (by decide)
                have hsl : s < nS := by have := (List.getElem?_eq_some_iff.1 hy).1; have := HLT.out; omega
                have his : (s : Int) < nS := by omega
                obtain ⟨b, o, rfl, hbl, hcell⟩ := HRS.out.at_ (j := s) (by rw [List.length_map, HLT.out]; exact hsl)
                rw [List.getElem_map] at hcell
                have hyy : ss[s]'(by rw [HLT.out]; exact hsl) = y := (List.getElem?_eq_some_iff.1 hy).2
                rw [hyy] at hcell
                have hcx := (HA0.out.cell (p := ⟨b, o + s, none⟩) hbl).trans hcell
                clear hyy hcell hbl hy
                by_cases ht : y.size = 16
                · have ht2 : ((y.size : Int) != 16) = false := by simp; omega
                  have HN := Lib.hid (hgood (fun _ => ht))
                  clear hgood hbad ht
                  simp only [if_pos (show (99 : UInt8) = 99 from rfl)] at HN
                  go_wp2_with fail
                  go_round
                  case rel =>
                    first
                      | exact ⟨k2 + 1, s + 1, _, by omega, by omega, by go_num, by go_num, rfl, HN.out⟩
                      | ((repeat apply Exists.intro); refine ⟨?_, rfl⟩; exact ⟨k2 + 1, s + 1, _, by omega, by omega, by go_num, by go_num, rfl, HN.out⟩)
                  case measure => simp [intOf]; omega
                · have ht2 : ((y.size : Int) != 16) = true := by rw [bne_iff_ne]; omega
                  have HB := Lib.hid (show refR l ss ns = 1 by unfold refR; rw [if_pos (hbad rfl ht)])
                  clear hgood hbad ht
                  go_wp2_with fail
                  go_ret
                  exact ⟨by rw [HC.out, HB.out]; rfl, HA0.out⟩
              by_cases h115 : x = 115
              · subst h115
                have e99 : (((115 : UInt8).toNat : Int) != 99) = true := rfl
                have e115 : (((115 : UInt8).toNat : Int) != 115) = false := rfl
                have f99 : (((115 : UInt8).toNat : Int) == 99) = false := rfl
                obtain ⟨y, hy, hbad, hgood⟩ := HAT.out.next HX1.out (by decide)
                have hsl : s < nS := by have := (List.getElem?_eq_some_iff.1 hy).1; have := HLT.out; omega
                have his : (s : Int) < nS := by omega
                obtain ⟨b, o, rfl, hbl, hcell⟩ := HRS.out.at_ (j := s) (by rw [List.length_map, HLT.out]; exact hsl)
                rw [List.getElem_map] at hcell
                have hyy : ss[s]'(by rw [HLT.out]; exact hsl) = y := (List.getElem?_eq_some_iff.1 hy).2
                rw [hyy] at hcell
                have hcx := (HA0.out.cell (p := ⟨b, o + s, none⟩) hbl).trans hcell
                clear hyy hcell hbl hy
                have HN := Lib.hid (hgood (fun e => absurd e (by decide)))
                clear hgood hbad
                simp only [if_neg (show ¬ (115 : UInt8) = 99 by decide)] at HN
                by_cases ht : 32768 < y.size
                · have ht2 : decide ((32768 : Int) < y.size) = true := by simp; omega
                  have HNW := Lib.hid (show (big || decide (32768 < y.size)) = true by simp [ht])
                  rw [HNW.out] at HN
                  clear ht
                  go_wp2_with fail
                  go_round
                  case rel =>
                    first
                      | exact ⟨k2 + 1, s + 1, _, by omega, by omega, by go_num, by go_num, rfl, HN.out⟩
                      | ((repeat apply Exists.intro); refine ⟨?_, rfl⟩; exact ⟨k2 + 1, s + 1, _, by omega, by omega, by go_num, by go_num, rfl, HN.out⟩)
                  case measure => simp [intOf]; omega
                · have ht2 : decide ((32768 : Int) < y.size) = false := by simp; omega
                  have HNW := Lib.hid (show (big || decide (32768 < y.size)) = big by simp [ht])
                  rw [HNW.out] at HN
                  clear ht
                  go_wp2_with fail
                  go_round
                  case rel =>
                    first
                      | exact ⟨k2 + 1, s + 1, _, by omega, by omega, by go_num, by go_num, rfl, HN.out⟩
                      | ((repeat apply Exists.intro); refine ⟨?_, rfl⟩; exact ⟨k2 + 1, s + 1, _, by omega, by omega, by go_num, by go_num, rfl, HN.out⟩)
                  case measure => simp [intOf]; omega
              by_cases h114 : x = 114
              · subst h114
                have e99 : (((114 : UInt8).toNat : Int) != 99) = true := rfl
                have e115 : (((114 : UInt8).toNat : Int) != 115) = true := rfl
                have e114 : (((114 : UInt8).toNat : Int) != 114) = false := rfl
                have f99 : (((114 : UInt8).toNat : Int) == 99) = false := rfl
                obtain ⟨y, hy, hbad, hgood⟩ := HAT.out.next HX1.out (by decide)
                have hsl : s < nS := by have := (List.getElem?_eq_some_iff.1 hy).1; have := HLT.out; omega
                have his : (s : Int) < nS := by omega
                obtain ⟨b, o, rfl, hbl, hcell⟩ := HRS.out.at_ (j := s) (by rw [List.length_map, HLT.out]; exact hsl)
                rw [List.getElem_map] at hcell
                have hyy : ss[s]'(by rw [HLT.out]; exact hsl) = y := (List.getElem?_eq_some_iff.1 hy).2
                rw [hyy] at hcell
                have hcx := (HA0.out.cell (p := ⟨b, o + s, none⟩) hbl).trans hcell
                clear hyy hcell hbl hy
                have HN := Lib.hid (hgood (fun e => absurd e (by decide)))
                clear hgood hbad
                simp only [if_neg (show ¬ (114 : UInt8) = 99 by decide)] at HN
                by_cases ht : 32768 < y.size
                · have ht2 : decide ((32768 : Int) < y.size) = true := by simp; omega
                  have HNW := Lib.hid (show (big || decide (32768 < y.size)) = true by simp [ht])
                  rw [HNW.out] at HN
                  clear ht
                  go_wp2_with fail
                  go_round
                  case rel =>
                    first
                      | exact ⟨k2 + 1, s + 1, _, by omega, by omega, by go_num, by go_num, rfl, HN.out⟩
                      | ((repeat apply Exists.intro); refine ⟨?_, rfl⟩; exact ⟨k2 + 1, s + 1, _, by omega, by omega, by go_num, by go_num, rfl, HN.out⟩)
                  case measure => simp [intOf]; omega
                · have ht2 : decide ((32768 : Int) < y.size) = false := by simp; omega
                  have HNW := Lib.hid (show (big || decide (32768 < y.size)) = big by simp [ht])
                  rw [HNW.out] at HN
                  clear ht
                  go_wp2_with fail
                  go_round
                  case rel =>
                    first
                      | exact ⟨k2 + 1, s + 1, _, by omega, by omega, by go_num, by go_num, rfl, HN.out⟩
                      | ((repeat apply Exists.intro); refine ⟨?_, rfl⟩; exact ⟨k2 + 1, s + 1, _, by omega, by omega, by go_num, by go_num, rfl, HN.out⟩)
                  case measure => simp [intOf]; omega
              have EQ := Lib.hid (show ∀ c : UInt8, x ≠ c → ((x.toNat : Int) != c.toNat) = true from fun c hc => by rw [bne_iff_ne]; intro e; exact hc (UInt8.toNat_inj.1 (by omega)))
              have e99 : ((x.toNat : Int) != 99) = true := EQ.out 99 h99
              have e115 : ((x.toNat : Int) != 115) = true := EQ.out 115 h115
              have e114 : ((x.toNat : Int) != 114) = true := EQ.out 114 h114
              have HN := Lib.hid (HAT.out.skip HX1.out h99 h115 h114)
              clear h99 h115 h114
              go_wp2_with fail
              go_round
              case rel =>
                first
                  | exact ⟨k2 + 1, s, _, by omega, by omega, by go_num, rfl, rfl, HN.out⟩
                  | ((repeat apply Exists.intro); refine ⟨?_, rfl⟩; exact ⟨k2 + 1, s, _, by omega, by omega, by go_num, rfl, rfl, HN.out⟩)
              case measure => simp [intOf]; omega
            · obtain rfl : k2 = k := by omega
              have HLQ3 := Lib.hid HLQ.out
              have hd1 : decide (k2 < ls.size) = false := by have := HLQ3.out; simp; omega
              have hnk2 : ¬ k2 < ls.size := by have := HLQ3.out; omega
              have HW := Lib.hid (show wS l ss = false by have := HAT.out.w; rw [List.drop_of_length_le (by rw [HQ.out]; exact Nat.le_refl _)] at this; rw [this]; rfl)
              have HBB := Lib.hid (show bS l ss = big by have := HAT.out.b; rw [List.drop_of_length_le (by rw [HQ.out]; exact Nat.le_refl _)] at this; rw [this]; simp [bS])
              go_wp2_with fail
              clear hd1
              go_loopw [10, 126] (fun v10 i wr => ∃ (j : Nat) (bg : Bool), j ≤ nn ∧ i = .int .i64 j ∧ v10 = .bool bg ∧ wN (ns.take j) = false ∧ bg = (big || bN (ns.take j)) ∧ Below w.heap.size w wr) (fun _ i _ => nn - (intOf i).toNat)
              case atStart => exact ⟨0, big, Nat.zero_le _, rfl, rfl, rfl, by simp [bN], HA0.out⟩
              case round =>
                obtain ⟨j, bg, hj, rfl, rfl, hwn, hbg, hb⟩ := hrel
                have HWN := Lib.hid hwn
                have HBG := Lib.hid hbg
                have HB := Lib.hid hb
                clear hwn hbg hb
                by_cases hjn : j < nn
                · have hd2 : decide (j < nn) = true := by simp; exact hjn
                  have hij : (j : Int) < nn := by omega
                  have hx : ns[j]? = some (ns[j]'(by rw [HLN.out]; exact hjn)) := List.getElem?_eq_getElem _
                  generalize ns[j]'(by rw [HLN.out]; exact hjn) = x at *
                  obtain ⟨u, hu, xa, xn, xc, rfl, hxn, hRX, hxc, _⟩ := HVN.out j x hx
                  rw [List.length_map] at hxn
                  obtain ⟨b, o, rfl, hbl, hcell⟩ := HRN.out.at_ (j := j) (by rw [HVL.out]; exact hjn)
                  have huu := (List.getElem?_eq_some_iff.1 hu).2
                  rw [huu] at hcell
                  have hcx := (HB.out.cell (p := ⟨b, o + j, none⟩) hbl).trans hcell
                  have hft := HF.out.n x (List.mem_of_getElem? hx)
                  have HX := Lib.hid hx
                  have HXN := Lib.hid hxn
                  have HRX := Lib.hid hRX
                  have HFT := Lib.hid hft
                  have hxnb : xn ≤ 100000 := by have := hft.1; omega
                  clear hu huu hcell hbl hx hxn hRX hft
                  go_wp2_with fail
                  go_loop [132] (fun i => ∃ p : Nat, p ≤ xn ∧ i = .int .i64 p ∧ (x.take p).all okN = true) (fun i => xn - (intOf i).toNat)
                  case atStart => exact ⟨0, Nat.zero_le _, rfl, rfl⟩
                  case round =>
                    obtain ⟨p, hp, rfl, hall⟩ := hrel
                    have HAL := Lib.hid hall
                    clear hall
                    by_cases hpn : p < xn
                    · have hd3 : decide (p < xn) = true := by simp; exact hpn
                      have hip : (p : Int) < xn := by omega
                      have hy : x[p]? = some (x[p]'(by rw [HXN.out]; exact hpn)) := List.getElem?_eq_getElem _
                      have hys := HFT.out.2.2 _ (List.getElem_mem (l := x) (n := p) (by rw [HXN.out]; exact hpn))
                      obtain ⟨b2, o2, rfl, hbl2, hcell2⟩ := HRX.out.at_ (j := p) (by rw [List.length_map, HXN.out]; exact hpn)
                      rw [List.getElem_map] at hcell2
                      generalize x[p]'(by rw [HXN.out]; exact hpn) = y at *
                      have hcy := (HB.out.cell (p := ⟨b2, o2 + p, none⟩) hbl2).trans hcell2
                      have HY := Lib.hid hy
                      have HYS := Lib.hid (show y.size ≤ 9223372036854775807 by omega)
                      clear hy hys hcell2 hbl2
                      cases hok : okN y
                      · have HBAD := Lib.hid (show refR l ss ns = 1 by unfold refR; rw [HW.out, wN_bad HX.out (all_bad x p y HY.out hok)]; rfl)
                        have HOKY := Lib.hid (show nameB y.data.toList = false from hok)
                        clear hok
                        go_wp2_with (go_at_call 49; refine (RefName_any _ y HYS.out).mono ?_; rintro e w3 ⟨rfl, rfl⟩; skip; rw [HOKY.out])
                        go_ret
                        exact ⟨by rw [HC.out, HBAD.out]; rfl, HB.out⟩
                      · have HT := Lib.hid (all_take x p y HY.out HAL.out hok)
                        have HOKY := Lib.hid (show nameB y.data.toList = true from hok)
                        clear hok
                        go_wp2_with (go_at_call 49; refine (RefName_any _ y HYS.out).mono ?_; rintro e w3 ⟨rfl, rfl⟩; skip; rw [HOKY.out])
                        go_round
                        case rel =>
                          first
                            | exact ⟨p + 1, by omega, by go_num, HT.out⟩
                            | ((repeat apply Exists.intro); refine ⟨?_, rfl⟩; exact ⟨p + 1, by omega, by go_num, HT.out⟩)
                        case measure => simp [intOf]; omega
                    · obtain rfl : p = xn := by omega
                      have hd3 : decide (p < p) = false := by simp
                      have HAX := Lib.hid (show x.all okN = true by have := HAL.out; rwa [List.take_of_length_le (Nat.le_of_eq HXN.out)] at this)
                      have HWN2 := Lib.hid (wN_take HX.out HWN.out HAX.out)
                      obtain ⟨tx, htx⟩ : ∃ tx, mkS (textL (joinC x)) = tx := ⟨_, rfl⟩
                      have htl : tx.size = (joinC x).length + 4 := by rw [← htx, mkS_size]; unfold textL; rw [List.length_append, be_length]; omega
                      have HNM := Lib.hid (show ∀ W, Below w.heap.size w W → Calls Tryd.prog 50 #[.slice xa p xc] W fun e w' => e = .returned (.string tx) ∧ Below W.heap.size W w' from fun W hW => by
                        have := RefNames_gen W xa p xc x HXN.out (by omega) (HRX.out.below hW) HFT.out.2.1
                        rw [htx] at this; exact this)
                      have HJ := Lib.hid (bN_take HX.out)
                      by_cases ht : 4096 < (joinC x).length
                      · have ht2 : decide ((4100 : Int) < tx.size) = true := by simp; omega
                        have HN2 := Lib.hid (show true = (big || bN (ns.take (j + 1))) by rw [HJ.out, decide_eq_true ht]; simp)
                        clear ht htx htl
                        go_wp2_with (go_at_call 50; refine (HNM.out _ HB.out).mono ?_; rintro e w5 ⟨rfl, hb5⟩; skip; have HB5 := Lib.hid (HB.out.trans (hb5.mono HB.out.size)); clear hb5)
                        go_roundw
                        case rel =>
                          first
                            | exact ⟨j + 1, true, by omega, by go_num, rfl, HWN2.out, HN2.out, HB5.out⟩
                            | ((repeat apply Exists.intro); refine ⟨?_, rfl⟩; exact ⟨j + 1, true, by omega, by go_num, rfl, HWN2.out, HN2.out, HB5.out⟩)
                        case measure => simp [intOf]; omega
                      · have ht2 : decide ((4100 : Int) < tx.size) = false := by simp; omega
                        have HN2 := Lib.hid (show bg = (big || bN (ns.take (j + 1))) by rw [HJ.out, decide_eq_false ht, Bool.or_false]; exact HBG.out)
                        clear ht htx htl
                        go_wp2_with (go_at_call 50; refine (HNM.out _ HB.out).mono ?_; rintro e w5 ⟨rfl, hb5⟩; skip; have HB5 := Lib.hid (HB.out.trans (hb5.mono HB.out.size)); clear hb5)
                        go_roundw
                        case rel =>
                          first
                            | exact ⟨j + 1, bg, by omega, by go_num, rfl, HWN2.out, HN2.out, HB5.out⟩
                            | ((repeat apply Exists.intro); refine ⟨?_, rfl⟩; exact ⟨j + 1, bg, by omega, by go_num, rfl, HWN2.out, HN2.out, HB5.out⟩)
                        case measure => simp [intOf]; omega
                · obtain rfl : j = nn := by omega
                  have hd2 : decide (j < j) = false := by simp
                  have htk : ns.take j = ns := List.take_of_length_le (Nat.le_of_eq HLN.out)
                  have HWA := Lib.hid (show wN ns = false by have := HWN.out; rwa [htk] at this)
                  have HBA := Lib.hid (show bg = (bS l ss || bN ns) by have := HBG.out; rw [htk] at this; rw [HBB.out]; exact this)
                  clear htk
                  cases bg
                  · have HE := Lib.hid (show refR l ss ns = 0 by unfold refR; rw [HW.out, HWA.out, ← HBA.out]; rfl)
                    go_wp2_with fail
                    go_ret
                    exact ⟨by rw [HC.out, HE.out]; rfl, HB.out⟩
                  · have HE := Lib.hid (show refR l ss ns = 4 by unfold refR; rw [HW.out, HWA.out, ← HBA.out]; rfl)
                    go_wp2_with fail
                    go_ret
                    exact ⟨by rw [HC.out, HE.out]; rfl, HB.out⟩
end Go.Proofs.YtjfikbnfabdkoaaDoor.Mg
