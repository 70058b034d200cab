/- The store in memory; New, Keys. -/
import Derived.Test.YtgdbplciepiinaaDoorStSl
import Derived.Test.YtgdbplciepiinaaDoorStVal
import Derived.Test.YtgdbplciepiinaaDoorMapA
import Derived.Carry
set_option linter.unusedVariables false
set_option linter.unusedSimpArgs false
namespace Go.Proofs.YtgdbplciepiinaaDoor.St
open Go.RowKit Go.Proofs.YtgdbplciepiinaaDoor.Ow Go.Proofs.YtgdbplciepiinaaDoor.Mp Go.Maps
/-- a tenant and a key of it -/
abbrev Pr := List UInt8 × List UInt8
def keysOf (L : List Pr) (t : List UInt8) : List (List UInt8) := (L.filter fun p => decide (p.1 = t)).map (·.2)
def whoOf (L : List Pr) (k : List UInt8) : Option (List UInt8) := (L.find? fun p => decide (p.2 = k)).map (·.1)
/-- the tenants, each once -/
def ddup : List (List UInt8) → List (List UInt8)
  | [] => []
  | x :: l => if x ∈ ddup l then ddup l else x :: ddup l
theorem mem_ddup {x : List UInt8} : ∀ l : List (List UInt8), x ∈ ddup l ↔ x ∈ l
  | [] => Iff.rfl
  | y :: l => by
    have ih := mem_ddup (x := x) l
    unfold ddup
    split
    · rename_i h
      rw [ih, List.mem_cons]
      exact ⟨.inr, fun e => e.elim (fun e => by rw [e]; exact (mem_ddup l).1 h) id⟩
    · rw [List.mem_cons, List.mem_cons, ih]
theorem nodup_ddup : ∀ l : List (List UInt8), (ddup l).Nodup
  | [] => List.nodup_nil
  | y :: l => by
    unfold ddup
    split
    · exact nodup_ddup l
    · rename_i h
      exact List.nodup_cons.2 ⟨h, nodup_ddup l⟩
def tens (L : List Pr) : List (List UInt8) := ddup (L.map (·.1))
theorem mem_tens {L : List Pr} {x : List UInt8} : x ∈ tens L ↔ keysOf L x ≠ [] := by
  unfold tens keysOf
  rw [mem_ddup, List.mem_map]
  constructor
  · rintro ⟨p, hp, rfl⟩ e
    have : p ∈ L.filter fun q => decide (q.1 = p.1) := List.mem_filter.2 ⟨hp, decide_eq_true rfl⟩
    rw [List.map_eq_nil_iff.1 e] at this
    simp at this
  · intro h
    cases e : L.filter fun p => decide (p.1 = x) with
    | nil => rw [e] at h; exact absurd rfl h
    | cons p r =>
      have hp : p ∈ L.filter fun p => decide (p.1 = x) := by rw [e]; simp
      exact ⟨p, (List.mem_filter.1 hp).1, of_decide_eq_true (List.mem_filter.1 hp).2⟩
/-- the tenants, rising -/
def namesL (L : List Pr) : List (List UInt8) := (tens L).mergeSort leB
theorem namesL_length (L : List Pr) : (namesL L).length = (tens L).length := List.length_mergeSort _
/-- what holds of the pairs of a store -/
structure Good (L : List Pr) : Prop where
  key : ∀ p ∈ L, p.2.length = 32
  val : ∀ p ∈ L, validB p.1 = true
  nd : (L.map (·.2)).Nodup
theorem Good.nil : Good [] := ⟨fun p h => by simp at h, fun p h => by simp at h, by simp⟩
def strB (t : List UInt8) : ByteArray := ⟨t.toArray⟩
theorem keyed_str : Keyed Tryd.prog 9 := string_keyed Tryd.underlying9
theorem laidOut : laidOutB Tryd.prog = true := by kernel_rfl
theorem keyed_key : Keyed Tryd.prog 34 := Keyed.of_law (deep_law_gate laidOut (of_decide_eq_true (by kernel_rfl)) (of_decide_eq_true (by kernel_rfl)) (by kernel_rfl) (by rw [Tryd.underlying34]))
theorem key32 (l : List UInt8) (hl : l.length = 32) : keyOf Tryd.prog 34 (.agg (Cv.bytesV l)) = some (.string l) :=
  key_bytes Tryd.underlying34 Tryd.underlying5 (by kernel_rfl) (by kernel_rfl) (by kernel_rfl) (of_decide_eq_true (by kernel_rfl)) l hl
/-- the store at sb, its maps bo and bw -/
def IsSt (w : World) (sb bo bw T K N : Nat) (L : List Pr) : Prop :=
  Rg.Blk w sb 58 #[.int .i64 (T : Int), .int .i64 (K : Int), .map (some bo), .map (some bw)] ∧ bo ≠ bw ∧ Good L ∧
  (∃ f, RMap Tryd.prog w 9 bo N f (tens L).length ∧ ∀ x, (keysOf L x = [] ∧ f (.string x) = none) ∨ (keysOf L x ≠ [] ∧ ∃ v, f (.string x) = some v ∧ KS w v (keysOf L x))) ∧
  (∃ g s, RMap Tryd.prog w 34 bw N g s ∧ ∀ k, g (.string k) = (whoOf L k).map fun t => .agg #[.string (strB t)])
theorem IsSt.below {w w' : World} {sb bo bw T K N : Nat} {L : List Pr} (h : IsSt w sb bo bw T K N L) (hb : Below w.heap.size w w') : IsSt w' sb bo bw T K N L := by
  obtain ⟨h1, h2, h3, ⟨f, hf, hfx⟩, ⟨g, s, hg, hgx⟩⟩ := h
  refine ⟨h1.below hb h1.lt, h2, h3, ⟨f, hf.below hb hf.lt, fun x => ?_⟩, ⟨g, s, hg.below hb hg.lt, hgx⟩⟩
  rcases hfx x with h | ⟨h4, v, h5, h6⟩
  · exact .inl h
  · exact .inr ⟨h4, v, h5, h6.below hb⟩
def clampN (n : Int) : Nat := (max 0 (min n 64)).toNat
theorem clamp_eq (n : Int) : max 0 (min n 64) = (clampN n : Int) := by unfold clampN; omega
theorem New1_any (w : World) (n : Int) : Calls Tryd.prog 23 #[.int .i64 n] w fun e w' => e = .returned (.int .i64 (clampN n : Int)) ∧ w = w' := by
  go_enter Tryd.func23, Tryd.ntmps23
  go_wp2
  all_goals
    go_ret
    refine ⟨?_, rfl⟩
    show Ending.returned (Value.int .i64 _) = _
    congr 2
    unfold clampN
    omega
set_option maxRecDepth 20000 in
set_option maxHeartbeats 1000000 in
theorem New_any (w : World) (a b : Int) : Calls Tryd.prog 10 #[.int .i64 a, .int .i64 b] w fun e w' => ∃ sb bo bw, e = .returned (.pointer (some ⟨sb, 0, none⟩)) ∧ IsSt w' sb bo bw (clampN a) (clampN b) 0 [] ∧ Below w.heap.size w w' ∧ w.heap.size ≤ sb ∧ w.heap.size ≤ bo ∧ w.heap.size ≤ bw := by
  have HA := Lib.hid (fun W => New1_any W a)
  have HB := Lib.hid (fun W => New1_any W b)
  have hmm := @run_makeMap Tryd.prog
  have tok := True.intro
  go_enter Tryd.func10, Tryd.ntmps10
  go_wp2_with (first
    | (go_at_call 23; have _t := tok; refine (HA.out _).mono ?_; rintro e w1 ⟨rfl, rfl⟩; skip; have tok2 := True.intro; clear _t tok)
    | (go_at_call 23; have _t := tok2; refine (HB.out _).mono ?_; rintro e w1 ⟨rfl, rfl⟩; skip; clear _t tok2))
  go_ret
  have h1 : Below w.heap.size w (w.alloc (.map #[] 0)) := (Below.refl _ _).alloc (Nat.le_refl _) _
  have h2 : Below w.heap.size w ((w.alloc (.map #[] 0)).alloc (.map #[] 0)) := h1.alloc (by simp) _
  refine ⟨_, w.heap.size, w.heap.size + 1, rfl, ⟨Rg.Blk.newAt (by simp) _ _, by omega, Good.nil, ⟨fun _ => none, ?_, fun x => .inl ⟨rfl, rfl⟩⟩, ⟨fun _ => none, 0, ?_, fun k => rfl⟩⟩, h2.alloc (by simp; omega) _, by omega, Nat.le_refl _, by omega⟩
  · have h := RMap.made w Tryd.prog 9
    exact h.below (B := w.heap.size + 1) (((Below.refl _ _).alloc (by simp) _).alloc (by simp) _) (by omega)
  · have h := RMap.made (w.alloc (.map #[] 0)) Tryd.prog 34
    rw [show (w.alloc (.map #[] 0)).heap.size = w.heap.size + 1 by simp] at h
    exact h.below (B := w.heap.size + 1 + 1) ((Below.refl _ _).alloc (by simp) _) (by omega)
set_option maxRecDepth 20000 in
set_option maxHeartbeats 1000000 in
theorem Keys_any (w : World) (sb bo bw T K N : Nat) (L : List Pr) (h : IsSt w sb bo bw T K N L) (t : ByteArray) (ht : t.size ≤ maxLen) (hN : (keysOf L t.data.toList).length ≤ 1000000) :
    Calls Tryd.prog 21 #[.pointer (some ⟨sb, 0, none⟩), .string t] w fun e w' => ∃ v, e = .returned v ∧ KS w' v (keysOf L t.data.toList) ∧ Below w.heap.size w w' := by
  obtain ⟨hB, hne, hG, ⟨f, hf, hfx⟩, _⟩ := h
  have hz : (zeroValue 50).run Tryd.prog w = .ok (.slice none 0 0) w := by kernel_rfl
  have hl := hf.look keyed_str Tryd.underlying55 hz (key_str Tryd.underlying9 t ht)
  have c2 := hB.cell 2 (v := .map (some bo)) rfl
  have hk : ∀ x ∈ keysOf L t.data.toList, x.length = 32 := by
    intro x hx
    obtain ⟨p, hp, rfl⟩ := List.mem_map.1 hx
    exact hG.key p (List.mem_filter.1 hp).1
  have key : ∀ v, (f (.string t.data.toList)).getD (.slice none 0 0) = v → KS w v (keysOf L t.data.toList) → Calls Tryd.prog 21 #[.pointer (some ⟨sb, 0, none⟩), .string t] w fun e w' => ∃ v, e = .returned v ∧ KS w' v (keysOf L t.data.toList) ∧ Below w.heap.size w w' := by
    intro v hv hK
    rw [hv] at hl
    have HC := Lib.hid (Clone_any w v _ hK hN)
    have HK := Lib.hid hk
    clear hB hG hf hfx hz hk hv hK hN
    go_enter Tryd.func21, Tryd.ntmps21
    go_wp2_with (go_at_call 25; refine HC.out.mono ?_; rintro e w1 ⟨v1, rfl, ho, hb⟩; skip; have HO := Lib.hid ho; have HB := Lib.hid hb; clear ho hb)
    go_ret
    exact ⟨_, rfl, KS.own HO.out HK.out, HB.out⟩
  rcases hfx t.data.toList with ⟨h1, h2⟩ | ⟨h1, v, h2, h3⟩
  · exact key (.slice none 0 0) (by rw [h2]; rfl) (by rw [h1]; exact KS.nil w)
  · exact key v (by rw [h2, Option.getD_some]) h3
end Go.Proofs.YtgdbplciepiinaaDoor.St
