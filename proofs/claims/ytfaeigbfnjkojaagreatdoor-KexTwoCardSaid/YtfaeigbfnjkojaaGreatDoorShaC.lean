/- strings.Builder over this program: copyCheck, Len, WriteByte, WriteString. The walks are the shelf's worked ones, turned to this program's own numbers (its copyCheck ends in a panic that the loader refuses, so that the shelf's text does not lay them). strings.Join with the empty separator, at whatever slice of strings. The whole of a sum. Sum256 and Sum512. -/
import Derived.Test.YtfaeigbfnjkojaaGreatDoorRows
import Derived.Lib.Strings
import Derived.Lib.Slices
import Derived.Lib.Walk
import Derived.Lib.Builder
import Derived.Lib.AppendStr
import Derived.Lib.UnsafeStr
import Derived.Lib.MakeNoZero
import Derived.WalkKit
import Derived.Laws.Externs
import Derived.Laws.IdiomCopy
import Derived.Laws.BitsLemmas
import Derived.Test.YtfaeigbfnjkojaaGreatDoorShelf
import Derived.Test.YtfaeigbfnjkojaaGreatDoorShaB
import Derived.Test.YtfaeigbfnjkojaaGreatDoorShaA
import Derived.Test.YtfaeigbfnjkojaaGreatDoorIdx
import Derived.Test.YtfaeigbfnjkojaaGreatDoorGenA
set_option linter.unusedVariables false
set_option linter.unusedSimpArgs false
namespace Go.Proofs.YtfaeigbfnjkojaaGreatDoor.Bu
open Go.RowKit
theorem sizeB : (Tryz.prog.info? 67).map (·.size) = some 2 := by kernel_rfl
theorem liesB : liesAt Tryz.prog Tryz.prog.depth 67 (2 / Tryz.prog.cellsOf 67) 0 67 1 = true := by kernel_rfl
theorem infoByte : (Tryz.prog.info? 5).map (fun i => (i.zero, i.size, i.bytes)) = some (some (.int .u8 0), 1, 1) := by kernel_rfl

set_option maxHeartbeats 1000000 in
set_option maxRecDepth 100000 in
theorem copyCheck_used (b : Nat) (w : World) (h0 : w.cell? ⟨b, 0, none⟩ = some (.pointer (some ⟨b, 0, none⟩))) :
    Calls Tryz.prog 67 #[.pointer (some ⟨b, 0, none⟩)] w fun e w' => e = .returned (.tuple #[]) ∧ w' = w := by
  obtain ⟨j, hj, _⟩ := Option.map_eq_some_iff.1 sizeB
  go_enter Tryz.func67, Tryz.ntmps67
  go_wp2
  rw [Lib.run_neq_ptr_same w _ Tryz.underlying65 hj]
  go_wp2
  go_end0
  exact ⟨rfl, rfl⟩
set_option maxHeartbeats 1000000 in
set_option maxRecDepth 100000 in
theorem copyCheck_fresh (b : Nat) (w : World) (h0 : w.cell? ⟨b, 0, none⟩ = some (.pointer none)) (hsh : w.shape? b = some (67, 2)) (hfz : w.frozen? ⟨b, 0, none⟩ = false) :
    Calls Tryz.prog 67 #[.pointer (some ⟨b, 0, none⟩)] w fun e w' => e = .returned (.tuple #[]) ∧ w' = w.setCell ⟨b, 0, none⟩ (.pointer (some ⟨b, 0, none⟩)) := by
  obtain ⟨j, hj, hjs⟩ := Option.map_eq_some_iff.1 sizeB
  go_enter Tryz.func67, Tryz.ntmps67
  go_wp2
  rw [Lib.run_to_unsafe w ⟨b, 0, none⟩ Tryz.underlying65 Tryz.underlying108 hj (by rw [hjs]; decide) hsh (Nat.zero_lt_succ 1)]
  simp only [Result.andThen]
  rw [Oper.upon_value]
  go_wp2
  rw [run_callFunc_extern Tryz.func81 (by kernel_rfl) (by kernel_rfl) (by kernel_rfl) (e := Extern.AbiNoEscape.same) (by kernel_rfl)]
  rw [Lib.run_noEscape]
  simp only [Result.andThen]
  rw [Oper.upon_value]
  go_wp2
  rw [Lib.run_from_unsafe w ⟨b, 0, none⟩ Tryz.underlying108 Tryz.underlying65 hj hsh liesB]
  simp only [Result.andThen]
  rw [Oper.upon_value]
  go_wp2
  go_end0
  exact ⟨rfl, rfl⟩
theorem copyCheck (B b : Nat) (bs : List Value) (w : World) (h : Lib.IsBuilder 67 5 B b bs w) :
    Calls Tryz.prog 67 #[.pointer (some ⟨b, 0, none⟩)] w fun e w' => e = .returned (.tuple #[]) ∧ (Lib.BuilderAt 67 5 B b (.pointer (some ⟨b, 0, none⟩)) bs w' ∧ Below B w w') := by
  rcases h with h | h
  · refine (copyCheck_fresh b w h.cell0 h.shape h.frozen0).mono ?_
    rintro e w' ⟨rfl, rfl⟩
    exact ⟨rfl, h.used _, (Below.refl B w).setCell (p := ⟨b, 0, none⟩) h.1 _⟩
  · refine (copyCheck_used b w h.cell0).mono ?_
    rintro e w' ⟨rfl, rfl⟩
    exact ⟨rfl, h, Below.refl B _⟩
set_option maxHeartbeats 2000000 in
set_option maxRecDepth 100000 in
theorem writeByte (B b : Nat) (bs : List Value) (c : Int) (w : World) (h : Lib.IsBuilder 67 5 B b bs w) (hlen : bs.length + 1 ≤ 140737488355328) (hBw : B ≤ w.heap.size) :
    Calls Tryz.prog 71 #[.pointer (some ⟨b, 0, none⟩), .int .u8 c] w fun e w' => e = .returned .nilIface ∧ (Lib.BuilderAt 67 5 B b (.pointer (some ⟨b, 0, none⟩)) (bs ++ [.int .u8 c]) w' ∧ Below B w w') := by
  obtain ⟨i0, hi, hz0, hz1, hz2⟩ := info_parts infoByte
  go_enter Tryz.func71, Tryz.ntmps71
  go_wp2_with (go_at_call 67; refine (copyCheck B b bs _ h).mono ?_)
  rintro e w1 ⟨rfl, h1, hb1⟩
  obtain ⟨hB, v, hbk, hown, hne⟩ := h1
  have c0 : w1.cell? ⟨b, 0, none⟩ = some (.pointer (some ⟨b, 0, none⟩)) := by rw [Lib.cell_of_heap hbk]; rfl
  have c1 : w1.cell? ⟨b, 1, none⟩ = some v := by rw [Lib.cell_of_heap hbk]; rfl
  go_wp2_with (at_builtin; refine wpList_append_own _ rfl _ _ 36 rfl B 5 i0 (.int .u8 0) 1 1 Tryz.underlying36 hi hz0 hz1 hz2 rfl (by decide) _ _ _ rfl (hown.alloc _) ⟨w1.heap.size, 0, none⟩ 1 1 [.int .u8 c] rfl rfl ?c1 ?c2 ?c3 ?c4 ?c5 ?_)
  case c1 =>
    intro j u hj
    match j, hj with
    | 0, hj => simp at hj; subst hj; simp [Addr.add]
  case c2 => intro u hu; simp at hu; subst hu; rfl
  case c3 => unfold maxLen; omega
  case c4 => omega
  case c5 => have := hb1.size; simp; omega
  intro v' w2 hown' hgrow _
  have hlt : b < w1.heap.size := by
    rcases Nat.lt_or_ge b w1.heap.size with h' | h'
    · exact h'
    · simp [Array.getElem?_eq_none h'] at hbk
  have hb2 : w2.heap[b]? = some (.cells #[.pointer (some ⟨b, 0, none⟩), v] 67 (0, 0)) := by
    rw [hgrow.block b (by simp; omega) (fun e => hne e.symm), Lib.alloc_old w1 _ b hlt]
    exact hbk
  have d0 : w2.cell? ⟨b, 0, none⟩ = some (.pointer (some ⟨b, 0, none⟩)) := by rw [Lib.cell_of_heap hb2]; rfl
  have d1 : w2.cell? ⟨b, 1, none⟩ = some v := by rw [Lib.cell_of_heap hb2]; rfl
  have f1 : w2.frozen? ⟨b, 1, none⟩ = false := Lib.frozen_of_heap hb2 1
  obtain ⟨g, cap, rfl⟩ : ∃ g cap, v' = .slice (some ⟨g, 0, none⟩) (bs.length + 1) cap := by
    rcases hown'.2 with ⟨_, h0⟩ | ⟨g, cap, cur, hv, _⟩
    · omega
    · exact ⟨g, cap, hv⟩
  go_wp2
  go_ret
  refine ⟨rfl, ?_, ?_⟩
  · exact Lib.BuilderAt.put (T := 67) (e := 5) hB hb2 (bs' := bs ++ [.int .u8 c]) (by simpa using hown') (by decide)
  · exact ((hb1.alloc (by have := hb1.size; omega) _).grown hgrow (by have := hb1.size; simp; omega) (fun k hk => (hown.lt k hk).1)).setCell (p := ⟨b, 1, none⟩) hB _
set_option maxHeartbeats 2000000 in
set_option maxRecDepth 100000 in
theorem writeString (B b : Nat) (bs : List Value) (s : ByteArray) (w : World) (h : Lib.IsBuilder 67 5 B b bs w) (hlen : bs.length + s.size ≤ 140737488355328) (hBw : B ≤ w.heap.size) :
    Calls Tryz.prog 52 #[.pointer (some ⟨b, 0, none⟩), .string s] w fun e w' => e = .returned (.tuple #[.int .i64 s.size, .nilIface]) ∧ (Lib.BuilderAt 67 5 B b (.pointer (some ⟨b, 0, none⟩)) (bs ++ Lib.strCells s) w' ∧ Below B w w') := by
  obtain ⟨i0, hi, hz0, hz1, hz2⟩ := info_parts infoByte
  go_enter Tryz.func52, Tryz.ntmps52
  go_wp2_with (go_at_call 67; refine (copyCheck B b bs _ h).mono ?_)
  rintro e w1 ⟨rfl, h1, hb1⟩
  obtain ⟨hB, v, hbk, hown, hne⟩ := h1
  have c0 : w1.cell? ⟨b, 0, none⟩ = some (.pointer (some ⟨b, 0, none⟩)) := by rw [Lib.cell_of_heap hbk]; rfl
  have c1 : w1.cell? ⟨b, 1, none⟩ = some v := by rw [Lib.cell_of_heap hbk]; rfl
  go_wp2_with (at_builtin; refine Lib.wpList_append_own_string _ rfl _ _ 36 9 rfl B 5 i0 Tryz.underlying36 Tryz.underlying9 hi hz0 hz1 hz2 _ _ _ rfl hown s rfl ?c3 ?c4 ?c5 ?_)
  case c3 => unfold maxLen; omega
  case c4 => omega
  case c5 => have := hb1.size; omega
  intro v' w2 hown' hgrow _
  have hlt : b < w1.heap.size := by
    rcases Nat.lt_or_ge b w1.heap.size with h' | h'
    · exact h'
    · simp [Array.getElem?_eq_none h'] at hbk
  have hb2 : w2.heap[b]? = some (.cells #[.pointer (some ⟨b, 0, none⟩), v] 67 (0, 0)) := by
    rw [hgrow.block b hlt (fun e => hne e.symm)]
    exact hbk
  have d0 : w2.cell? ⟨b, 0, none⟩ = some (.pointer (some ⟨b, 0, none⟩)) := by rw [Lib.cell_of_heap hb2]; rfl
  have d1 : w2.cell? ⟨b, 1, none⟩ = some v := by rw [Lib.cell_of_heap hb2]; rfl
  have f1 : w2.frozen? ⟨b, 1, none⟩ = false := Lib.frozen_of_heap hb2 1
  obtain ⟨ao, n', cap, rfl⟩ : ∃ ao n' cap, v' = .slice ao n' cap := by
    rcases hown'.2 with ⟨hv, _⟩ | ⟨g, cap, cur, hv, _⟩
    · exact ⟨_, _, _, hv⟩
    · exact ⟨_, _, _, hv⟩
  go_wp2
  go_ret2
  refine ⟨rfl, ?_, ?_⟩
  · exact Lib.BuilderAt.put (T := 67) (e := 5) hB hb2 (bs' := bs ++ Lib.strCells s) (by simpa [Lib.strCells_length] using hown') (by decide)
  · exact (hb1.grown hgrow (by have := hb1.size; omega) (fun k hk => (hown.lt k hk).1)).setCell (p := ⟨b, 1, none⟩) hB _
/-- a builder just made -/
theorem fresh (w : World) : Lib.IsBuilder 67 5 w.heap.size w.heap.size [] (w.alloc (.cells #[.pointer none, .slice none 0 0] 67)) :=
  .inl ⟨Nat.le_refl _, _, heap_alloc_new _ _, World.ownsRow_nil _ _ _ _, by simp [Value.ownBlock]⟩
theorem wraps_u8 (x : Int) : IntKind.u8.wrap x = x % 256 := by simp [IntKind.wrap, IntKind.bits, IntKind.signed]
end Go.Proofs.YtfaeigbfnjkojaaGreatDoor.Bu
namespace Go.Proofs.YtfaeigbfnjkojaaGreatDoor.Jo
open Go.RowKit
/-- the bytes of all parts; the name is not opened by unification -/
@[irreducible] def joined (xs : List ByteArray) : ByteArray := ⟨(xs.flatMap fun x => x.data.toList).toArray⟩
theorem joined_list (xs : List ByteArray) : (joined xs).data.toList = xs.flatMap fun x => x.data.toList := by unfold joined; rfl
/-- a slice value that holds the strings xs -/
def Parts (w : World) (v : Value) (xs : List ByteArray) : Prop :=
  (xs = [] ∧ ∃ a c, v = .slice a 0 c) ∨
  (∃ b o c, v = .slice (some ⟨b, o, none⟩) xs.length c ∧ (∀ (j : Nat) x, xs[j]? = some x → w.cell? ⟨b, o + j, none⟩ = some (.string x)) ∧ b < w.heap.size ∧ xs.length ≤ c)
theorem Parts.below {w w' : World} {v : Value} {xs : List ByteArray} (h : Parts w v xs) (hb : Below w.heap.size w w') : Parts w' v xs := by
  rcases h with h | ⟨b, o, c, hv, hc, hl, hx⟩
  · exact .inl h
  · exact .inr ⟨b, o, c, hv, fun j x hx => (hb.cell (p := ⟨b, o + j, none⟩) hl).trans (hc j x hx), Nat.lt_of_lt_of_le hl hb.size, hx⟩
theorem joinTail_nil (l : List (List UInt8)) : Lib.joinTail [] l = l.flatten := by
  unfold Lib.joinTail
  rw [show l.map (([] : List UInt8) ++ ·) = l from List.map_id' l]
theorem join_nil (l : List (List UInt8)) : Lib.join l [] = l.flatten := by
  cases l with
  | nil => rfl
  | cons x l => rw [Lib.join_cons, joinTail_nil]; rfl
theorem join_any (w : World) (v : Value) (xs : List ByteArray) (h : Parts w v xs) (hs : (joined xs).size ≤ 140737488355328) (hN : xs.length ≤ 140737488355328) :
    Calls Tryz.prog 69 #[v, .string ⟨#[]⟩] w fun e w' => e = .returned (.string (joined xs)) ∧ Below w.heap.size w w' := by
  rcases h with ⟨rfl, a, c, rfl⟩ | ⟨b, o, c, rfl, hc, hl, hx⟩
  · refine (Tryz.strings_Join_none a c ⟨#[]⟩ w).mono ?_
    rintro e w' ⟨rfl, rfl⟩
    exact ⟨by unfold joined; rfl, Below.refl _ _⟩
  · have e : Lib.join (xs.map (·.data.toList)) [] = xs.flatMap fun x => x.data.toList := by rw [join_nil, List.flatMap_def]
    have hs' : (xs.flatMap fun x => x.data.toList).length ≤ 140737488355328 := by
      rw [← joined_list, Array.length_toList]; exact hs
    refine (Tryz.strings_Join b o c xs ⟨#[]⟩ w hc hl hN hx (by show (Lib.join _ []).length ≤ _; rw [e]; exact hs')).mono ?_
    rintro e' w' ⟨rfl, hb⟩
    refine ⟨?_, hb⟩
    show Ending.returned (.string ⟨(Lib.join _ []).toArray⟩) = _
    rw [e]; unfold joined; rfl
/-- n zero bytes; the name is not opened by unification -/
@[irreducible] def zeroStr (n : Nat) : ByteArray := ⟨(List.replicate n (0 : UInt8)).toArray⟩
theorem zeroStr_list (n : Nat) : (zeroStr n).data.toList = List.replicate n 0 := by unfold zeroStr; rfl
theorem zeroStr_size (n : Nat) : (zeroStr n).size = n := by unfold zeroStr; show (List.replicate n (0 : UInt8)).toArray.size = n; simp
theorem repeat_zero (w : World) (c : Nat) (hc : c ≤ 1000000) : Calls Tryz.prog 70 #[.string ⟨#[0]⟩, .int .i64 c] w fun e w' => e = .returned (.string (zeroStr c)) ∧ Below w.heap.size w w' := by
  refine (Tryz.strings_Repeat ⟨#[0]⟩ c w (by omega) (by show 1 * c ≤ _; omega)).mono ?_
  rintro e w' ⟨rfl, hb⟩
  refine ⟨?_, hb⟩
  have e : Lib.repeatL (⟨#[0]⟩ : ByteArray).data.toList c = List.replicate c 0 := by
    show Lib.repeatL [0] c = _
    induction c with
    | zero => rfl
    | succ c ih => rw [List.replicate_succ, ← ih (by omega)]; rfl
  rw [e]; unfold zeroStr; rfl
end Go.Proofs.YtfaeigbfnjkojaaGreatDoor.Jo
namespace Go.Proofs.YtfaeigbfnjkojaaGreatDoor.Sha
open Go.RowKit Go.Proofs.YtfaeigbfnjkojaaGreatDoor.Cl

/-- the first k words of h, then zeros -/
def pad8 (h : List Nat) (k : Nat) : List Nat := (List.range 8).map fun i => if i < k then nth h i else 0
theorem pad8_length (h : List Nat) (k : Nat) : (pad8 h k).length = 8 := by simp [pad8]
theorem pad8_set (h : List Nat) (k v : Nat) (hk : k < 8) (hv : v = nth h k) : (pad8 h k).set k v = pad8 h (k + 1) := by
  apply List.ext_getElem
  · simp [pad8]
  · intro i h1 h2
    rw [List.getElem_set]
    simp only [pad8, List.getElem_map, List.getElem_range]
    by_cases hij : k = i
    · subst hij; simp [hv]
    · have : i < k + 1 ↔ i < k := by omega
      simp [hij, this]
theorem pad8_all (h : List Nat) (hl : h.length = 8) : pad8 h 8 = h := by
  match h, hl with
  | [a, b, c, d, e, f, g, i], _ => rfl
theorem zero8 (w : World) (T : Nat) : Row (w.alloc (.cells #[.int .u64 0, .int .u64 0, .int .u64 0, .int .u64 0, .int .u64 0, .int .u64 0, .int .u64 0, .int .u64 0] T)) w.heap.size T (pad8 [] 0) := Rg.Blk.new w _ T
theorem pad8_zero (h : List Nat) : pad8 h 0 = pad8 [] 0 := by rfl
theorem nth_h0 (W k : Nat) (hk : k < 8) : nth (h0 W) k = if W = 32 then hi32 (nth firstL k) else nth firstL k := by
  simp [nth, h0, hk]
theorem extract_list (s : ByteArray) (n : Nat) : (s.extract n s.size).data.toList = s.data.toList.drop n := by
  simp
  exact List.take_of_length_le (by rw [List.length_drop, Array.length_toList]; exact Nat.le_refl _)
theorem extract_list0 (s : ByteArray) (n : Nat) : (s.extract 0 n).data.toList = s.data.toList.take n := by
  simp
theorem outBytes_snoc (W : Nat) (hs : List Nat) (j : Nat) (hj : j < hs.length) : Lib.byteCells (outBytes W (hs.take (j + 1))) = Lib.byteCells (outBytes W (hs.take j)) ++ Lib.byteCells (beBytes (W / 8) (nth hs j)) := by
  have e : nth hs j = hs[j] := by simp [nth, hj]
  rw [List.take_succ_eq_append_getElem hj, ← e]
  unfold outBytes Lib.byteCells
  rw [List.flatMap_append, List.map_append, List.flatMap_cons, List.flatMap_nil, List.append_nil]
def padn (n : Nat) : Nat := (128 - (n + 17) % 128) % 128
def strLen : Value → Nat
  | .string s => s.size
  | _ => 0
theorem bytes_append (a b : ByteArray) : (a ++ b).data.toList = a.data.toList ++ b.data.toList := by
  simp

set_option maxRecDepth 20000 in
set_option maxHeartbeats 1000000 in
theorem sum256 (w : World) (v : Value) (xs : List ByteArray) (hT : Tables w) (hP : Jo.Parts w v xs) (hs : (Jo.joined xs).size ≤ 1000000) (hN : xs.length ≤ 1000000) :
    Calls Tryz.prog 55 #[K256, v] w fun e w' => e = .returned (.string ⟨(sha 32 (Jo.joined xs).data.toList).toArray⟩) ∧ Below w.heap.size w w' := by
  have HT := Lib.hid hT
  have HP := Lib.hid hP
  clear hT hP
  unfold K256
  go_enter Tryz.func55, Tryz.ntmps55
  go_wp2_with (first
    | (refine Rg.box_fresh rfl 102 _ rfl _ rfl ?_; intro V hK hbV hnV; have HK := Lib.hid hK; have HBV := Lib.hid hbV; have HNV := Lib.hid hnV; clear hK hbV hnV))
  generalize hX : World.alloc V _ = X
  have HX := Lib.hid (show Row X V.heap.size 138 (pad8 (h0 32) 0) by subst hX; rw [pad8_zero]; exact zero8 _ _)
  have HKX := Lib.hid (show Rg.Blk X w.heap.size 102 k256c by subst hX; exact HK.out.alloc _)
  have HBX := Lib.hid (show Below w.heap.size w X by subst hX; exact HBV.out.alloc (by rw [HNV.out]; omega) _)
  have hwV : w.heap.size < V.heap.size := by rw [HNV.out]; omega
  clear hX
  go_loopw [18] (fun i wr => ∃ k : Nat, k ≤ 8 ∧ i = .int .i64 k ∧ Row wr V.heap.size 138 (pad8 (h0 32) k) ∧ Below V.heap.size X wr) (fun i _ => 8 - (intOf i).toNat)
  case atStart => exact ⟨0, by decide, rfl, HX.out, Below.refl _ _⟩
  case round =>
    obtain ⟨k, hk, rfl, hR, hb⟩ := hrel
    have hwr : V.heap.size < wr.heap.size := hR.lt
    have HR := Lib.hid hR
    have HB := Lib.hid hb
    have HKr := Lib.hid (HKX.out.below hb hwV)
    have HTr := Lib.hid ((HT.out.below HBX.out HT.out.size).below hb (by have := HT.out.size; omega))
    clear hR hb
    by_cases hk8 : k < 8
    · go_wp2_with fail
      have hKl : w.heap.size < wr.heap.size := by omega
      have tk := fun s : Rg.Later wr.heap.size wr => (s.cell 21 k (Nat.lt_of_lt_of_le (by decide) HTr.out.size)).trans (HTr.out.first k (by omega))
      have ik : (k : Int) < 8 := by omega
      refine Rg.wp_region_later wr.heap.size 7 (by kernel_rfl) (by kernel_rfl) ?_
      simp only [List.take_succ_cons, List.take_zero, List.drop_succ_cons, List.drop_zero]
      repeat (first | (go_big_quiet_want; refine Rg.quiet_load_row 102 _ rfl _ rfl _ _ _ (HKr.out.later hKl) Tryz.underlying102 rfl (by kernel_rfl) ?_; simp only [Act.put, List.setIfInBounds_toArray, List.set_cons_succ, List.set_cons_zero]; go_big_quiet_on) | go_big_quiet_step ((go_at_call 68; exact Rg.later_of (Nat.le_refl _) (word256_any _ _))))
      refine wpQuiet_nil ?_
      rintro _ ⟨s9, rfl⟩
      clear tk
      refine store_cell rfl 50 _ _ rfl rfl rfl Tryz.underlying50 (by kernel_rfl) (HR.out.below s9.is hwr) (by rw [pad8_length]; exact hk8) ?_
      intro w9 hR9 hg9
      have HR9 := Lib.hid hR9
      have HB9 := Lib.hid ((HB.out.trans (s9.is.mono (by omega))).grown hg9 (by have := s9.is.size; omega) (fun k hk => by cases hk; exact Nat.le_refl _))
      clear hR9 hg9
      go_wp2_with fail
      go_roundw
      case rel =>
        refine ⟨k + 1, by omega, by go_num, ?_, HB9.out⟩
        exact pad8_set (h0 32) k _ hk8 (by rw [nth_h0 _ _ hk8]; try rfl) ▸ HR9.out
      case measure => simp [intOf]; omega
    · obtain rfl : k = 8 := by omega
      have kw0 := HKr.out.cell 0 (v := .int .i64 32) rfl
      have HR8 := Lib.hid (show Row wr V.heap.size 138 (h0 32) from pad8_all (h0 32) (h0_length _) ▸ HR.out)
      obtain ⟨n, hn⟩ : ∃ n, (Jo.joined xs).size = n := ⟨_, rfl⟩
      have hn' : n ≤ 1000000 := hn ▸ hs
      have hs' : (Jo.joined xs).size ≤ 140737488355328 := by omega
      have Hs := Lib.hid hs'
      clear hs hs'
      have HPr := Lib.hid (show Jo.Parts wr v xs from HP.out.below (HBX.out.trans (HB.out.mono (by omega))))
      have hp : (-(((n : Int) + 1 + 8) % 64) % 64) = ((zeros 32 n : Nat) : Int) := by unfold zeros; omega
      have hp2 := True.intro
      have hz : zeros 32 n ≤ 256 := by unfold zeros; omega
      have hzs := Jo.zeroStr_size (zeros 32 n)
      have hq1 : ¬ 9223372036854775807 < 1 + (Jo.zeroStr (zeros 32 n)).size := by omega
      have hq2 : ¬ 9223372036854775807 < n + (1 + (Jo.zeroStr (zeros 32 n)).size) := by omega
      clear hzs
      obtain ⟨wo, rfl⟩ : ∃ wo : World, wo = wr := ⟨_, rfl⟩
      go_wp2_with fail
      have kL := fun s : Rg.Later wo.heap.size wo => HKr.out.cellL (show w.heap.size < wo.heap.size by omega) 0 (v := .int .i64 32) rfl s
      refine Rg.wp_region_later_all wo.heap.size (by kernel_rfl) (by kernel_rfl) ?_
      repeat (go_big_quiet_step (fail))
      refine wpQuiet_nil ?_
      rintro _ ⟨s1, rfl⟩
      clear kL kw0
      go_wp2_with (first
        | (go_at_call 69; refine (Jo.join_any _ _ xs (HPr.out.below s1.is) Hs.out (by omega)).mono ?_; rintro e w2 ⟨rfl, hb2⟩; skip; have HB2 := Lib.hid hb2; clear hb2)
        | (go_at_call 70; refine (Jo.repeat_zero _ (zeros 32 n) (by omega)).mono ?_; rintro e w3 ⟨rfl, hb3⟩; skip; have HB3 := Lib.hid hb3; clear hb3))
      clear hq1 hq2 hp hp2
      have HT1 := Lib.hid (show (Jo.joined xs ++ ((⟨#[128]⟩ : ByteArray) ++ Jo.zeroStr (zeros 32 n))).data.toList = (Jo.joined xs).data.toList ++ ([128] ++ List.replicate (zeros 32 n) 0) by rw [bytes_append, bytes_append, Jo.zeroStr_list])
      have HTS := Lib.hid (show (Jo.joined xs ++ ((⟨#[128]⟩ : ByteArray) ++ Jo.zeroStr (zeros 32 n))).size ≤ 1000300 by rw [ByteArray.size_append, ByteArray.size_append, Jo.zeroStr_size, hn]; show n + (1 + zeros 32 n) ≤ _; omega)
      generalize Jo.joined xs ++ ((⟨#[128]⟩ : ByteArray) ++ Jo.zeroStr (zeros 32 n)) = tx at *
      have HKw := Lib.hid (((HKr.out.below s1.is HKr.out.lt).below HB2.out (by have := s1.is.size; omega)).below HB3.out (by have := s1.is.size; have := HB2.out.size; omega))
      have HRw := Lib.hid (((HR8.out.below s1.is hwr).below HB2.out (by have := s1.is.size; omega)).below HB3.out (by have := s1.is.size; have := HB2.out.size; omega))
      have HBw := Lib.hid (show Below w.heap.size w w3 from (((HBX.out.trans (HB.out.mono (by omega))).trans (s1.is.mono (by omega))).trans (HB2.out.mono (by have := s1.is.size; omega))).trans (HB3.out.mono (by have := s1.is.size; have := HB2.out.size; omega)))
      have HBu := Lib.hid (Bu.fresh w3)
      have HBY := Lib.hid (show Below w3.heap.size w3 (w3.alloc (.cells #[.pointer none, .slice none 0 0] 67)) from (Below.refl _ _).alloc (Nat.le_refl _) _)
      go_loopw [13] (fun i wr => ∃ k : Nat, k ≤ 8 ∧ i = .int .i64 (56 - 8 * (k : Int)) ∧ Lib.IsBuilder 67 5 w3.heap.size w3.heap.size (Lib.byteCells ((beBytes 8 (n * 8)).take k)) wr ∧ Below w3.heap.size w3 wr) (fun i _ => (intOf i + 8).toNat)
      case atStart => exact ⟨0, by decide, rfl, HBu.out, HBY.out⟩
      case round =>
        obtain ⟨k, hk, rfl, hU, hb⟩ := hrel
        have HU := Lib.hid hU
        have HBk := Lib.hid hb
        clear hU hb
        by_cases hk8 : k < 8
        · have i0 : 0 ≤ 56 - 8 * (k : Int) := by omega
          have hsz := HBk.out.size
          have hc := be_cells 8 (n * 8) k hk8 (56 - 8 * k) (by omega)
          have HC := Lib.hid hc
          clear hc
          have hle : (Lib.byteCells ((beBytes 8 (n * 8)).take k)).length + 1 ≤ 140737488355328 := by rw [Lib.byteCells_length, List.length_take, beBytes_length]; omega
          have HLE := Lib.hid hle
          clear hle
          go_wp2_with (go_at_call 71; refine (Bu.writeByte _ _ _ _ _ HU.out HLE.out hsz).mono ?_; rintro e w5 ⟨rfl, hU5, hb5⟩; skip; have HU5 := Lib.hid hU5; have HB5 := Lib.hid hb5; clear hU5 hb5)
          go_roundw
          case rel =>
            refine ⟨k + 1, by omega, by go_num, ?_, HBk.out.trans HB5.out⟩
            rw [HC.out]
            exact .inr HU5.out
          case measure => simp [intOf]; omega
        · obtain rfl : k = 8 := by omega
          have hsz := HBk.out.size
          have hq3 : ¬ 9223372036854775807 < tx.size + (beBytes 8 (n * 8)).length := by rw [beBytes_length]; have := HTS.out; omega
          have htake : (beBytes 8 (n * 8)).take 8 = beBytes 8 (n * 8) := List.take_of_length_le (by rw [beBytes_length]; exact Nat.le_refl _)
          have HU8 := Lib.hid (htake ▸ HU.out)
          clear htake
          go_wp2_with (first
            | (go_at_call 53; refine (Tryz.Builder_String_any _ _ _ _ HU8.out hsz).mono ?_; rintro e w6 ⟨rfl, hb6⟩; skip; have HB6 := Lib.hid hb6; clear hb6))
          have HSP := Lib.hid (show (tx ++ (⟨(beBytes 8 (n * 8)).toArray⟩ : ByteArray)).data.toList = padded 32 (Jo.joined xs).data.toList by
            have hbl : (Jo.joined xs).data.toList.length = n := by rw [Array.length_toList]; exact hn
            rw [bytes_append, HT1.out]; unfold padded; rw [hbl])
          have HSZ := Lib.hid (show (tx ++ (⟨(beBytes 8 (n * 8)).toArray⟩ : ByteArray)).size ≤ 1000400 by
            rw [ByteArray.size_append]; have := HTS.out; show tx.size + (beBytes 8 (n * 8)).toArray.size ≤ _; rw [List.size_toArray, beBytes_length]; omega)
          generalize tx ++ (⟨(beBytes 8 (n * 8)).toArray⟩ : ByteArray) = sp at *
          have hm := padded_length32 (Jo.joined xs).data.toList
          have hml : (padded 32 (Jo.joined xs).data.toList).length ≤ 2000000 := by
            rw [← HSP.out, Array.length_toList]; show sp.size ≤ _; exact Nat.le_trans HSZ.out (by decide)
          generalize hbs : (Jo.joined xs).data.toList = bs at *
          have HBS := Lib.hid hbs
          clear hbs
          have HM0 : padded 32 bs = padded 32 bs := rfl
          generalize hmm : padded 32 bs = m at *
          have HM := Lib.hid hmm
          clear hmm HM0
          have HKs := Lib.hid ((HKw.out.below HBk.out HKw.out.lt).below HB6.out HKw.out.lt)
          have HRs := Lib.hid ((HRw.out.below HBk.out HRw.out.lt).below HB6.out HRw.out.lt)
          have HBs := Lib.hid (show Below w.heap.size w w6 from (HBw.out.trans (HBk.out.mono HBw.out.size)).trans (HB6.out.mono HBw.out.size))
          clear hq3
          go_loopw [9] (fun s wr => ∃ (k : Nat) (sv : ByteArray), s = .string sv ∧ sv.data.toList = m.drop (k * 64) ∧ k * 64 ≤ m.length ∧ Row wr V.heap.size 138 (hashTo 32 m k) ∧ Rg.Blk wr w.heap.size 102 k256c ∧ Below w.heap.size w wr) (fun s _ => strLen s)
          case atStart => exact ⟨0, sp, rfl, by rw [HSP.out, Nat.zero_mul]; rfl, by omega, HRs.out, HKs.out, HBs.out⟩
          case round =>
            obtain ⟨k, sv, rfl, hsv, hkm, hR, hK, hb⟩ := hrel
            have hsvl : sv.size = m.length - k * 64 := by
              have := congrArg List.length hsv
              rw [Array.length_toList, List.length_drop] at this; exact this
            have HSV := Lib.hid hsv
            have HR := Lib.hid hR
            have HK := Lib.hid hK
            have HB := Lib.hid hb
            clear hsv hR hK hb
            by_cases hgo : k * 64 < m.length
            · have hge : 64 ≤ sv.size := by omega
              clear hsvl
              have hlw := HR.out.lt
              go_wp2_with fail
              have hi1 : (64 : Int) ≤ sv.size := by omega
              refine Rg.wp_region_later wr.heap.size 4 (by kernel_rfl) (by kernel_rfl) ?_
              simp only [List.take_succ_cons, List.take_zero, List.drop_succ_cons, List.drop_zero]
              repeat (first | (go_big_quiet_want; refine Rg.quiet_load_row 102 _ rfl _ rfl _ _ _ (HK.out.later HK.out.lt) Tryz.underlying102 rfl (by kernel_rfl) ?_; simp only [Act.put, List.setIfInBounds_toArray, List.set_cons_succ, List.set_cons_zero]; go_big_quiet_on) | go_big_quiet_step (fail))
              refine wpQuiet_nil ?_
              rintro _ ⟨s7, rfl⟩
              have hV2 : 2 ≤ V.heap.size := by have := HT.out.size; omega
              have HTx := Lib.hid (show Tables s7.val from (HT.out.below HB.out HT.out.size).below s7.is (by have := HT.out.size; omega))
              have hex : (sv.extract 0 64).size = 64 := by rw [ByteArray.size_extract]; omega
              have Hex := Lib.hid hex
              clear hex
              go_wp2_with (first
                | (go_at_call 72; refine (mix256 _ V.heap.size _ _ Hex.out HTx.out hV2 (HR.out.below s7.is hlw) (hashTo_length _ _ _) (hashTo_lt 32 (by decide) m k)).mono ?_; rintro e w8 ⟨rfl, hR8, hg8⟩; skip; have HRm := Lib.hid hR8; have HGm := Lib.hid hg8; clear hR8 hg8))
              go_roundw
              case rel =>
                have hsv' := HSV.out
                refine ⟨k + 1, _, rfl, ?_, by omega, ?_, blk_grown (HK.out.below s7.is HK.out.lt) HGm.out (by omega), ?_⟩
                · rw [extract_list, hsv', List.drop_drop]
                  congr 1; omega
                · have e : hashTo 32 m (k + 1) = mixed 32 (sv.extract 0 64).data.toList (hashTo 32 m k) := by
                    rw [extract_list0, hsv']; rfl
                  rw [e]; exact HRm.out
                · exact ((HB.out.trans (s7.is.mono (by have := HK.out.lt; omega))).grown HGm.out (by have := s7.is.size; have := HK.out.lt; omega) (fun k hk => by cases hk; omega))
              case measure => simp only [strLen, ByteArray.size_extract]; omega
            · obtain hkl : k * 64 = m.length := by omega
              obtain ⟨wo2, rfl⟩ : ∃ wo2 : World, wo2 = wr := ⟨_, rfl⟩
              have h0s : sv.size = 0 := by omega
              clear hsvl
              have HN8 := Lib.hid (show (u64s (hashTo 32 m k)).size = 8 by simp [u64s, hashTo_length])
              go_wp2_with (first
                | (refine wpList_load_row rfl 138 _ rfl V.heap.size rfl _ _ _ _ (Rg.Blk.alloc HR.out _) Tryz.underlying138 rfl (by rw [HN8.out]; rfl) ?_))
              clear h0s
              have HBo := Lib.hid (show Below w.heap.size w wo2 from HB.out)
              have HKo := Lib.hid (show Rg.Blk wo2 w.heap.size 102 k256c from HK.out)
              have HBu2 := Lib.hid (Bu.fresh wo2)
              have HBY2 := Lib.hid (show Below wo2.heap.size wo2 (wo2.alloc (.cells #[.pointer none, .slice none 0 0] 67)) from (Below.refl _ _).alloc (Nat.le_refl _) _)
              have hhl := hashTo_length 32 m k
              have HSHA := Lib.hid (show sha 32 bs = outBytes 32 (hashTo 32 m k) by
                unfold sha; rw [HM.out]; congr 2; omega)
              have hwo : w.heap.size < wo2.heap.size := HKo.out.lt
              generalize hashTo 32 m k = hs at *
              go_loopw [83] (fun i wr => ∃ j : Nat, j ≤ 8 ∧ i = .int .i64 j ∧ Lib.IsBuilder 67 5 wo2.heap.size wo2.heap.size (Lib.byteCells (outBytes 32 (hs.take j))) wr ∧ Below wo2.heap.size wo2 wr) (fun i _ => 8 - (intOf i).toNat)
              case atStart => exact ⟨0, by decide, rfl, HBu2.out, HBY2.out⟩
              case round =>
                obtain ⟨j, hj, rfl, hU, hb⟩ := hrel
                have HU2 := Lib.hid hU
                have HBk2 := Lib.hid hb
                clear hU hb
                by_cases hj8 : j < 8
                · have hidx := fun w => index_words (P := Tryz.prog) 138 50 8 hs j Tryz.underlying138 Tryz.underlying50 (by kernel_rfl) hhl hj8 w
                  have kw0 := (HKo.out.below HBk2.out hwo).cell 0 (v := .int .i64 32) rfl
                  obtain ⟨wo3, rfl⟩ : ∃ wo3 : World, wo3 = wr := ⟨_, rfl⟩
                  have hd : decide ((j : Int) < 8) = true := by simp; omega
                  go_wp2_with fail
                  clear hd
                  clear hidx kw0
                  go_loopw [17] (fun i wr => ∃ l : Nat, l ≤ 4 ∧ i = .int .i64 (24 - 8 * (l : Int)) ∧ Lib.IsBuilder 67 5 wo2.heap.size wo2.heap.size (Lib.byteCells (outBytes 32 (hs.take j)) ++ Lib.byteCells ((beBytes 4 (nth hs j)).take l)) wr ∧ Below wo2.heap.size wo2 wr) (fun i _ => (intOf i + 8).toNat)
                  case atStart => exact ⟨0, by omega, rfl, by rw [show (beBytes 4 (nth hs j)).take 0 = [] from rfl, show Lib.byteCells [] = [] from rfl, List.append_nil]; exact HU2.out, HBk2.out⟩
                  case round =>
                    obtain ⟨l, hl, rfl, hU, hb⟩ := hrel
                    have HU3 := Lib.hid hU
                    have HBk3 := Lib.hid hb
                    have hsz := HBk3.out.size
                    clear hU hb
                    by_cases hl8 : l < 4
                    · have i0 : 0 ≤ 24 - 8 * (l : Int) := by omega
                      have HC := Lib.hid (be_cells 4 (nth hs j) l hl8 (24 - 8 * l) (by omega))
                      have hle : (Lib.byteCells (outBytes 32 (hs.take j)) ++ Lib.byteCells ((beBytes 4 (nth hs j)).take l)).length + 1 ≤ 140737488355328 := by
                        rw [List.length_append, Lib.byteCells_length, Lib.byteCells_length, outBytes_length, List.length_take, List.length_take, beBytes_length]
                        have : min j hs.length * (32 / 8) ≤ 8 * 4 := Nat.mul_le_mul (by omega) (by decide)
                        omega
                      have HLE := Lib.hid hle
                      clear hle
                      go_wp2_with (go_at_call 71; refine (Bu.writeByte _ _ _ _ _ HU3.out HLE.out hsz).mono ?_; rintro e w9 ⟨rfl, hU9, hb9⟩; skip; have HU9 := Lib.hid hU9; have HB9 := Lib.hid hb9; clear hU9 hb9)
                      go_roundw
                      case rel =>
                        have hU10 : Lib.IsBuilder 67 5 wo2.heap.size wo2.heap.size (Lib.byteCells (outBytes 32 (hs.take j)) ++ Lib.byteCells ((beBytes 4 (nth hs j)).take (l + 1))) w9 := by
                          rw [HC.out, ← List.append_assoc]
                          exact .inr HU9.out
                        first
                          | exact ⟨l + 1, by omega, by go_num, hU10, HBk3.out.trans HB9.out⟩
                          | ((repeat apply Exists.intro); refine ⟨?_, rfl⟩; exact ⟨l + 1, by omega, by go_num, hU10, HBk3.out.trans HB9.out⟩)
                      case measure => simp [intOf]; omega
                    · obtain rfl : l = 4 := by omega
                      go_wp2_with fail
                      go_roundw
                      case rel =>
                        have hU11 : Lib.IsBuilder 67 5 wo2.heap.size wo2.heap.size (Lib.byteCells (outBytes 32 (hs.take (j + 1)))) wr := by
                          rw [outBytes_snoc 32 hs j (by omega)]
                          have := HU3.out
                          rwa [show (beBytes 4 (nth hs j)).take 4 = beBytes 4 (nth hs j) from List.take_of_length_le (by rw [beBytes_length]; exact Nat.le_refl _)] at this
                        first
                          | exact ⟨j + 1, by omega, by go_num, hU11, HBk3.out⟩
                          | ((repeat apply Exists.intro); refine ⟨?_, rfl⟩; exact ⟨j + 1, by omega, by go_num, hU11, HBk3.out⟩)
                      case measure => simp [intOf]; omega
                · obtain rfl : j = 8 := by omega
                  have hsz := HBk2.out.size
                  have HU8b := Lib.hid (show Lib.IsBuilder 67 5 wo2.heap.size wo2.heap.size (Lib.byteCells (outBytes 32 hs)) wr from (show hs.take 8 = hs from List.take_of_length_le (by omega)) ▸ HU2.out)
                  go_wp2_with (first
                    | (go_at_call 53; refine (Tryz.Builder_String_any _ _ _ _ HU8b.out hsz).mono ?_; rintro e w6 ⟨rfl, hb6⟩; skip; have HB6b := Lib.hid hb6; clear hb6))
                  go_ret
                  exact ⟨by rw [HBS.out, HSHA.out]; rfl, (HBo.out.trans (HBk2.out.mono (by omega))).trans (HB6b.out.mono (by omega))⟩

set_option maxRecDepth 20000 in
set_option maxHeartbeats 1000000 in
theorem sum512 (w : World) (v : Value) (xs : List ByteArray) (hT : Tables w) (hP : Jo.Parts w v xs) (hs : (Jo.joined xs).size ≤ 1000000) (hN : xs.length ≤ 1000000) :
    Calls Tryz.prog 55 #[K512, v] w fun e w' => e = .returned (.string ⟨(sha 64 (Jo.joined xs).data.toList).toArray⟩) ∧ Below w.heap.size w w' := by
  have HT := Lib.hid hT
  have HP := Lib.hid hP
  clear hT hP
  unfold K512
  go_enter Tryz.func55, Tryz.ntmps55
  go_wp2_with (first
    | (refine Rg.box_fresh rfl 102 _ rfl _ rfl ?_; intro V hK hbV hnV; have HK := Lib.hid hK; have HBV := Lib.hid hbV; have HNV := Lib.hid hnV; clear hK hbV hnV))
  generalize hX : World.alloc V _ = X
  have HX := Lib.hid (show Row X V.heap.size 138 (pad8 (h0 64) 0) by subst hX; rw [pad8_zero]; exact zero8 _ _)
  have HKX := Lib.hid (show Rg.Blk X w.heap.size 102 k512c by subst hX; exact HK.out.alloc _)
  have HBX := Lib.hid (show Below w.heap.size w X by subst hX; exact HBV.out.alloc (by rw [HNV.out]; omega) _)
  have hwV : w.heap.size < V.heap.size := by rw [HNV.out]; omega
  clear hX
  go_loopw [18] (fun i wr => ∃ k : Nat, k ≤ 8 ∧ i = .int .i64 k ∧ Row wr V.heap.size 138 (pad8 (h0 64) k) ∧ Below V.heap.size X wr) (fun i _ => 8 - (intOf i).toNat)
  case atStart => exact ⟨0, by decide, rfl, HX.out, Below.refl _ _⟩
  case round =>
    obtain ⟨k, hk, rfl, hR, hb⟩ := hrel
    have hwr : V.heap.size < wr.heap.size := hR.lt
    have HR := Lib.hid hR
    have HB := Lib.hid hb
    have HKr := Lib.hid (HKX.out.below hb hwV)
    have HTr := Lib.hid ((HT.out.below HBX.out HT.out.size).below hb (by have := HT.out.size; omega))
    clear hR hb
    by_cases hk8 : k < 8
    · go_wp2_with fail
      have hKl : w.heap.size < wr.heap.size := by omega
      have tk := fun s : Rg.Later wr.heap.size wr => (s.cell 21 k (Nat.lt_of_lt_of_le (by decide) HTr.out.size)).trans (HTr.out.first k (by omega))
      have ik : (k : Int) < 8 := by omega
      refine Rg.wp_region_later wr.heap.size 7 (by kernel_rfl) (by kernel_rfl) ?_
      simp only [List.take_succ_cons, List.take_zero, List.drop_succ_cons, List.drop_zero]
      repeat (first | (go_big_quiet_want; refine Rg.quiet_load_row 102 _ rfl _ rfl _ _ _ (HKr.out.later hKl) Tryz.underlying102 rfl (by kernel_rfl) ?_; simp only [Act.put, List.setIfInBounds_toArray, List.set_cons_succ, List.set_cons_zero]; go_big_quiet_on) | go_big_quiet_step ((go_at_call 68; exact Rg.later_of (Nat.le_refl _) (word512_any _ _))))
      refine wpQuiet_nil ?_
      rintro _ ⟨s9, rfl⟩
      clear tk
      refine store_cell rfl 50 _ _ rfl rfl rfl Tryz.underlying50 (by kernel_rfl) (HR.out.below s9.is hwr) (by rw [pad8_length]; exact hk8) ?_
      intro w9 hR9 hg9
      have HR9 := Lib.hid hR9
      have HB9 := Lib.hid ((HB.out.trans (s9.is.mono (by omega))).grown hg9 (by have := s9.is.size; omega) (fun k hk => by cases hk; exact Nat.le_refl _))
      clear hR9 hg9
      go_wp2_with fail
      go_roundw
      case rel =>
        refine ⟨k + 1, by omega, by go_num, ?_, HB9.out⟩
        exact pad8_set (h0 64) k _ hk8 (by rw [nth_h0 _ _ hk8]; try rfl) ▸ HR9.out
      case measure => simp [intOf]; omega
    · obtain rfl : k = 8 := by omega
      have kw0 := HKr.out.cell 0 (v := .int .i64 64) rfl
      have HR8 := Lib.hid (show Row wr V.heap.size 138 (h0 64) from pad8_all (h0 64) (h0_length _) ▸ HR.out)
      obtain ⟨n, hn⟩ : ∃ n, (Jo.joined xs).size = n := ⟨_, rfl⟩
      have hn' : n ≤ 1000000 := hn ▸ hs
      have hs' : (Jo.joined xs).size ≤ 140737488355328 := by omega
      have Hs := Lib.hid hs'
      clear hs hs'
      have HPr := Lib.hid (show Jo.Parts wr v xs from HP.out.below (HBX.out.trans (HB.out.mono (by omega))))
      have hp : (-(((n : Int) + 1 + 16) % 128) % 128) = ((padn n : Nat) : Int) := by unfold padn; omega
      have hp2 : ((padn n : Nat) : Int) + 16 - 8 = ((zeros 64 n : Nat) : Int) := by unfold padn zeros; omega
      have hz : zeros 64 n ≤ 256 := by unfold zeros; omega
      have hzs := Jo.zeroStr_size (zeros 64 n)
      have hq1 : ¬ 9223372036854775807 < 1 + (Jo.zeroStr (zeros 64 n)).size := by omega
      have hq2 : ¬ 9223372036854775807 < n + (1 + (Jo.zeroStr (zeros 64 n)).size) := by omega
      clear hzs
      obtain ⟨wo, rfl⟩ : ∃ wo : World, wo = wr := ⟨_, rfl⟩
      go_wp2_with fail
      have kL := fun s : Rg.Later wo.heap.size wo => HKr.out.cellL (show w.heap.size < wo.heap.size by omega) 0 (v := .int .i64 64) rfl s
      refine Rg.wp_region_later_all wo.heap.size (by kernel_rfl) (by kernel_rfl) ?_
      repeat (go_big_quiet_step (fail))
      refine wpQuiet_nil ?_
      rintro _ ⟨s1, rfl⟩
      clear kL kw0
      go_wp2_with (first
        | (go_at_call 69; refine (Jo.join_any _ _ xs (HPr.out.below s1.is) Hs.out (by omega)).mono ?_; rintro e w2 ⟨rfl, hb2⟩; skip; have HB2 := Lib.hid hb2; clear hb2)
        | (go_at_call 70; refine (Jo.repeat_zero _ (zeros 64 n) (by omega)).mono ?_; rintro e w3 ⟨rfl, hb3⟩; skip; have HB3 := Lib.hid hb3; clear hb3))
      clear hq1 hq2 hp hp2
      have HT1 := Lib.hid (show (Jo.joined xs ++ ((⟨#[128]⟩ : ByteArray) ++ Jo.zeroStr (zeros 64 n))).data.toList = (Jo.joined xs).data.toList ++ ([128] ++ List.replicate (zeros 64 n) 0) by rw [bytes_append, bytes_append, Jo.zeroStr_list])
      have HTS := Lib.hid (show (Jo.joined xs ++ ((⟨#[128]⟩ : ByteArray) ++ Jo.zeroStr (zeros 64 n))).size ≤ 1000300 by rw [ByteArray.size_append, ByteArray.size_append, Jo.zeroStr_size, hn]; show n + (1 + zeros 64 n) ≤ _; omega)
      generalize Jo.joined xs ++ ((⟨#[128]⟩ : ByteArray) ++ Jo.zeroStr (zeros 64 n)) = tx at *
      have HKw := Lib.hid (((HKr.out.below s1.is HKr.out.lt).below HB2.out (by have := s1.is.size; omega)).below HB3.out (by have := s1.is.size; have := HB2.out.size; omega))
      have HRw := Lib.hid (((HR8.out.below s1.is hwr).below HB2.out (by have := s1.is.size; omega)).below HB3.out (by have := s1.is.size; have := HB2.out.size; omega))
      have HBw := Lib.hid (show Below w.heap.size w w3 from (((HBX.out.trans (HB.out.mono (by omega))).trans (s1.is.mono (by omega))).trans (HB2.out.mono (by have := s1.is.size; omega))).trans (HB3.out.mono (by have := s1.is.size; have := HB2.out.size; omega)))
      have HBu := Lib.hid (Bu.fresh w3)
      have HBY := Lib.hid (show Below w3.heap.size w3 (w3.alloc (.cells #[.pointer none, .slice none 0 0] 67)) from (Below.refl _ _).alloc (Nat.le_refl _) _)
      go_loopw [13] (fun i wr => ∃ k : Nat, k ≤ 8 ∧ i = .int .i64 (56 - 8 * (k : Int)) ∧ Lib.IsBuilder 67 5 w3.heap.size w3.heap.size (Lib.byteCells ((beBytes 8 (n * 8)).take k)) wr ∧ Below w3.heap.size w3 wr) (fun i _ => (intOf i + 8).toNat)
      case atStart => exact ⟨0, by decide, rfl, HBu.out, HBY.out⟩
      case round =>
        obtain ⟨k, hk, rfl, hU, hb⟩ := hrel
        have HU := Lib.hid hU
        have HBk := Lib.hid hb
        clear hU hb
        by_cases hk8 : k < 8
        · have i0 : 0 ≤ 56 - 8 * (k : Int) := by omega
          have hsz := HBk.out.size
          have hc := be_cells 8 (n * 8) k hk8 (56 - 8 * k) (by omega)
          have HC := Lib.hid hc
          clear hc
          have hle : (Lib.byteCells ((beBytes 8 (n * 8)).take k)).length + 1 ≤ 140737488355328 := by rw [Lib.byteCells_length, List.length_take, beBytes_length]; omega
          have HLE := Lib.hid hle
          clear hle
          go_wp2_with (go_at_call 71; refine (Bu.writeByte _ _ _ _ _ HU.out HLE.out hsz).mono ?_; rintro e w5 ⟨rfl, hU5, hb5⟩; skip; have HU5 := Lib.hid hU5; have HB5 := Lib.hid hb5; clear hU5 hb5)
          go_roundw
          case rel =>
            refine ⟨k + 1, by omega, by go_num, ?_, HBk.out.trans HB5.out⟩
            rw [HC.out]
            exact .inr HU5.out
          case measure => simp [intOf]; omega
        · obtain rfl : k = 8 := by omega
          have hsz := HBk.out.size
          have hq3 : ¬ 9223372036854775807 < tx.size + (beBytes 8 (n * 8)).length := by rw [beBytes_length]; have := HTS.out; omega
          have htake : (beBytes 8 (n * 8)).take 8 = beBytes 8 (n * 8) := List.take_of_length_le (by rw [beBytes_length]; exact Nat.le_refl _)
          have HU8 := Lib.hid (htake ▸ HU.out)
          clear htake
          go_wp2_with (first
            | (go_at_call 53; refine (Tryz.Builder_String_any _ _ _ _ HU8.out hsz).mono ?_; rintro e w6 ⟨rfl, hb6⟩; skip; have HB6 := Lib.hid hb6; clear hb6))
          have HSP := Lib.hid (show (tx ++ (⟨(beBytes 8 (n * 8)).toArray⟩ : ByteArray)).data.toList = padded 64 (Jo.joined xs).data.toList by
            have hbl : (Jo.joined xs).data.toList.length = n := by rw [Array.length_toList]; exact hn
            rw [bytes_append, HT1.out]; unfold padded; rw [hbl])
          have HSZ := Lib.hid (show (tx ++ (⟨(beBytes 8 (n * 8)).toArray⟩ : ByteArray)).size ≤ 1000400 by
            rw [ByteArray.size_append]; have := HTS.out; show tx.size + (beBytes 8 (n * 8)).toArray.size ≤ _; rw [List.size_toArray, beBytes_length]; omega)
          generalize tx ++ (⟨(beBytes 8 (n * 8)).toArray⟩ : ByteArray) = sp at *
          have hm := padded_length64 (Jo.joined xs).data.toList
          have hml : (padded 64 (Jo.joined xs).data.toList).length ≤ 2000000 := by
            rw [← HSP.out, Array.length_toList]; show sp.size ≤ _; exact Nat.le_trans HSZ.out (by decide)
          generalize hbs : (Jo.joined xs).data.toList = bs at *
          have HBS := Lib.hid hbs
          clear hbs
          have HM0 : padded 64 bs = padded 64 bs := rfl
          generalize hmm : padded 64 bs = m at *
          have HM := Lib.hid hmm
          clear hmm HM0
          have HKs := Lib.hid ((HKw.out.below HBk.out HKw.out.lt).below HB6.out HKw.out.lt)
          have HRs := Lib.hid ((HRw.out.below HBk.out HRw.out.lt).below HB6.out HRw.out.lt)
          have HBs := Lib.hid (show Below w.heap.size w w6 from (HBw.out.trans (HBk.out.mono HBw.out.size)).trans (HB6.out.mono HBw.out.size))
          clear hq3
          go_loopw [9] (fun s wr => ∃ (k : Nat) (sv : ByteArray), s = .string sv ∧ sv.data.toList = m.drop (k * 128) ∧ k * 128 ≤ m.length ∧ Row wr V.heap.size 138 (hashTo 64 m k) ∧ Rg.Blk wr w.heap.size 102 k512c ∧ Below w.heap.size w wr) (fun s _ => strLen s)
          case atStart => exact ⟨0, sp, rfl, by rw [HSP.out, Nat.zero_mul]; rfl, by omega, HRs.out, HKs.out, HBs.out⟩
          case round =>
            obtain ⟨k, sv, rfl, hsv, hkm, hR, hK, hb⟩ := hrel
            have hsvl : sv.size = m.length - k * 128 := by
              have := congrArg List.length hsv
              rw [Array.length_toList, List.length_drop] at this; exact this
            have HSV := Lib.hid hsv
            have HR := Lib.hid hR
            have HK := Lib.hid hK
            have HB := Lib.hid hb
            clear hsv hR hK hb
            by_cases hgo : k * 128 < m.length
            · have hge : 128 ≤ sv.size := by omega
              clear hsvl
              have hlw := HR.out.lt
              go_wp2_with fail
              have hi1 : (128 : Int) ≤ sv.size := by omega
              refine Rg.wp_region_later wr.heap.size 4 (by kernel_rfl) (by kernel_rfl) ?_
              simp only [List.take_succ_cons, List.take_zero, List.drop_succ_cons, List.drop_zero]
              repeat (first | (go_big_quiet_want; refine Rg.quiet_load_row 102 _ rfl _ rfl _ _ _ (HK.out.later HK.out.lt) Tryz.underlying102 rfl (by kernel_rfl) ?_; simp only [Act.put, List.setIfInBounds_toArray, List.set_cons_succ, List.set_cons_zero]; go_big_quiet_on) | go_big_quiet_step (fail))
              refine wpQuiet_nil ?_
              rintro _ ⟨s7, rfl⟩
              have hV2 : 2 ≤ V.heap.size := by have := HT.out.size; omega
              have HTx := Lib.hid (show Tables s7.val from (HT.out.below HB.out HT.out.size).below s7.is (by have := HT.out.size; omega))
              have hex : (sv.extract 0 128).size = 128 := by rw [ByteArray.size_extract]; omega
              have Hex := Lib.hid hex
              clear hex
              go_wp2_with (first
                | (go_at_call 72; refine (mix512 _ V.heap.size _ _ Hex.out HTx.out hV2 (HR.out.below s7.is hlw) (hashTo_length _ _ _) (hashTo_lt 64 (by decide) m k)).mono ?_; rintro e w8 ⟨rfl, hR8, hg8⟩; skip; have HRm := Lib.hid hR8; have HGm := Lib.hid hg8; clear hR8 hg8))
              go_roundw
              case rel =>
                have hsv' := HSV.out
                refine ⟨k + 1, _, rfl, ?_, by omega, ?_, blk_grown (HK.out.below s7.is HK.out.lt) HGm.out (by omega), ?_⟩
                · rw [extract_list, hsv', List.drop_drop]
                  congr 1; omega
                · have e : hashTo 64 m (k + 1) = mixed 64 (sv.extract 0 128).data.toList (hashTo 64 m k) := by
                    rw [extract_list0, hsv']; rfl
                  rw [e]; exact HRm.out
                · exact ((HB.out.trans (s7.is.mono (by have := HK.out.lt; omega))).grown HGm.out (by have := s7.is.size; have := HK.out.lt; omega) (fun k hk => by cases hk; omega))
              case measure => simp only [strLen, ByteArray.size_extract]; omega
            · obtain hkl : k * 128 = m.length := by omega
              obtain ⟨wo2, rfl⟩ : ∃ wo2 : World, wo2 = wr := ⟨_, rfl⟩
              have h0s : sv.size = 0 := by omega
              clear hsvl
              have HN8 := Lib.hid (show (u64s (hashTo 64 m k)).size = 8 by simp [u64s, hashTo_length])
              go_wp2_with (first
                | (refine wpList_load_row rfl 138 _ rfl V.heap.size rfl _ _ _ _ (Rg.Blk.alloc HR.out _) Tryz.underlying138 rfl (by rw [HN8.out]; rfl) ?_))
              clear h0s
              have HBo := Lib.hid (show Below w.heap.size w wo2 from HB.out)
              have HKo := Lib.hid (show Rg.Blk wo2 w.heap.size 102 k512c from HK.out)
              have HBu2 := Lib.hid (Bu.fresh wo2)
              have HBY2 := Lib.hid (show Below wo2.heap.size wo2 (wo2.alloc (.cells #[.pointer none, .slice none 0 0] 67)) from (Below.refl _ _).alloc (Nat.le_refl _) _)
              have hhl := hashTo_length 64 m k
              have HSHA := Lib.hid (show sha 64 bs = outBytes 64 (hashTo 64 m k) by
                unfold sha; rw [HM.out]; congr 2; omega)
              have hwo : w.heap.size < wo2.heap.size := HKo.out.lt
              generalize hashTo 64 m k = hs at *
              go_loopw [83] (fun i wr => ∃ j : Nat, j ≤ 8 ∧ i = .int .i64 j ∧ Lib.IsBuilder 67 5 wo2.heap.size wo2.heap.size (Lib.byteCells (outBytes 64 (hs.take j))) wr ∧ Below wo2.heap.size wo2 wr) (fun i _ => 8 - (intOf i).toNat)
              case atStart => exact ⟨0, by decide, rfl, HBu2.out, HBY2.out⟩
              case round =>
                obtain ⟨j, hj, rfl, hU, hb⟩ := hrel
                have HU2 := Lib.hid hU
                have HBk2 := Lib.hid hb
                clear hU hb
                by_cases hj8 : j < 8
                · have hidx := fun w => index_words (P := Tryz.prog) 138 50 8 hs j Tryz.underlying138 Tryz.underlying50 (by kernel_rfl) hhl hj8 w
                  have kw0 := (HKo.out.below HBk2.out hwo).cell 0 (v := .int .i64 64) rfl
                  obtain ⟨wo3, rfl⟩ : ∃ wo3 : World, wo3 = wr := ⟨_, rfl⟩
                  have hd : decide ((j : Int) < 8) = true := by simp; omega
                  go_wp2_with fail
                  clear hd
                  clear hidx kw0
                  go_loopw [17] (fun i wr => ∃ l : Nat, l ≤ 8 ∧ i = .int .i64 (56 - 8 * (l : Int)) ∧ Lib.IsBuilder 67 5 wo2.heap.size wo2.heap.size (Lib.byteCells (outBytes 64 (hs.take j)) ++ Lib.byteCells ((beBytes 8 (nth hs j)).take l)) wr ∧ Below wo2.heap.size wo2 wr) (fun i _ => (intOf i + 8).toNat)
                  case atStart => exact ⟨0, by omega, rfl, by rw [show (beBytes 8 (nth hs j)).take 0 = [] from rfl, show Lib.byteCells [] = [] from rfl, List.append_nil]; exact HU2.out, HBk2.out⟩
                  case round =>
                    obtain ⟨l, hl, rfl, hU, hb⟩ := hrel
                    have HU3 := Lib.hid hU
                    have HBk3 := Lib.hid hb
                    have hsz := HBk3.out.size
                    clear hU hb
                    by_cases hl8 : l < 8
                    · have i0 : 0 ≤ 56 - 8 * (l : Int) := by omega
                      have HC := Lib.hid (be_cells 8 (nth hs j) l hl8 (56 - 8 * l) (by omega))
                      have hle : (Lib.byteCells (outBytes 64 (hs.take j)) ++ Lib.byteCells ((beBytes 8 (nth hs j)).take l)).length + 1 ≤ 140737488355328 := by
                        rw [List.length_append, Lib.byteCells_length, Lib.byteCells_length, outBytes_length, List.length_take, List.length_take, beBytes_length]
                        have : min j hs.length * (64 / 8) ≤ 8 * 8 := Nat.mul_le_mul (by omega) (by decide)
                        omega
                      have HLE := Lib.hid hle
                      clear hle
                      go_wp2_with (go_at_call 71; refine (Bu.writeByte _ _ _ _ _ HU3.out HLE.out hsz).mono ?_; rintro e w9 ⟨rfl, hU9, hb9⟩; skip; have HU9 := Lib.hid hU9; have HB9 := Lib.hid hb9; clear hU9 hb9)
                      go_roundw
                      case rel =>
                        have hU10 : Lib.IsBuilder 67 5 wo2.heap.size wo2.heap.size (Lib.byteCells (outBytes 64 (hs.take j)) ++ Lib.byteCells ((beBytes 8 (nth hs j)).take (l + 1))) w9 := by
                          rw [HC.out, ← List.append_assoc]
                          exact .inr HU9.out
                        first
                          | exact ⟨l + 1, by omega, by go_num, hU10, HBk3.out.trans HB9.out⟩
                          | ((repeat apply Exists.intro); refine ⟨?_, rfl⟩; exact ⟨l + 1, by omega, by go_num, hU10, HBk3.out.trans HB9.out⟩)
                      case measure => simp [intOf]; omega
                    · obtain rfl : l = 8 := by omega
                      go_wp2_with fail
                      go_roundw
                      case rel =>
                        have hU11 : Lib.IsBuilder 67 5 wo2.heap.size wo2.heap.size (Lib.byteCells (outBytes 64 (hs.take (j + 1)))) wr := by
                          rw [outBytes_snoc 64 hs j (by omega)]
                          have := HU3.out
                          rwa [show (beBytes 8 (nth hs j)).take 8 = beBytes 8 (nth hs j) from List.take_of_length_le (by rw [beBytes_length]; exact Nat.le_refl _)] at this
                        first
                          | exact ⟨j + 1, by omega, by go_num, hU11, HBk3.out⟩
                          | ((repeat apply Exists.intro); refine ⟨?_, rfl⟩; exact ⟨j + 1, by omega, by go_num, hU11, HBk3.out⟩)
                      case measure => simp [intOf]; omega
                · obtain rfl : j = 8 := by omega
                  have hsz := HBk2.out.size
                  have HU8b := Lib.hid (show Lib.IsBuilder 67 5 wo2.heap.size wo2.heap.size (Lib.byteCells (outBytes 64 hs)) wr from (show hs.take 8 = hs from List.take_of_length_le (by omega)) ▸ HU2.out)
                  go_wp2_with (first
                    | (go_at_call 53; refine (Tryz.Builder_String_any _ _ _ _ HU8b.out hsz).mono ?_; rintro e w6 ⟨rfl, hb6⟩; skip; have HB6b := Lib.hid hb6; clear hb6))
                  go_ret
                  exact ⟨by rw [HBS.out, HSHA.out]; rfl, (HBo.out.trans (HBk2.out.mono (by omega))).trans (HB6b.out.mono (by omega))⟩
end Go.Proofs.YtfaeigbfnjkojaaGreatDoor.Sha
namespace Go.Proofs.YtfaeigbfnjkojaaGreatDoor.Sha
open Go.RowKit Go.Proofs.YtfaeigbfnjkojaaGreatDoor.Cl Go.Proofs.YtfaeigbfnjkojaaGreatDoor.Cv
set_option maxRecDepth 20000 in
set_option maxHeartbeats 1000000 in
theorem Sum256_any (w : World) (v : Value) (xs : List ByteArray) (hT : Tables w) (hP : Jo.Parts w v xs) (hs : (Jo.joined xs).size ≤ 1000000) (hN : xs.length ≤ 1000000) :
    Calls Tryz.prog 32 #[v] w fun e w' => e = .returned (.agg (bytesV (sha 32 (Jo.joined xs).data.toList))) ∧ Below w.heap.size w w' := by
  have HT := Lib.hid hT
  have HP := Lib.hid hP
  have Hs := Lib.hid hs
  have HL := Lib.hid (sha_length 32 (by decide) (Jo.joined xs).data.toList)
  have HZ := Lib.hid (show (bytesV (sha 32 (Jo.joined xs).data.toList)).size = 32 by rw [bytesV_size, HL.out])
  clear hT hP hs
  go_enter Tryz.func32, Tryz.ntmps32
  go_wp2_with fail
  generalize hX : World.alloc w _ = X
  have HBX := Lib.hid (show Below w.heap.size w X by subst hX; exact (Below.refl _ _).alloc (Nat.le_refl _) _)
  have HR := Lib.hid (show ∃ cs : Array Value, cs.size = 32 ∧ Rg.Blk X w.heap.size 22 cs by subst hX; exact ⟨_, rfl, Rg.Blk.new _ _ _⟩)
  have hXs : w.heap.size < X.heap.size := by obtain ⟨cs, _, h⟩ := HR.out; exact h.lt
  clear hX
  go_wp2_with (first
    | (go_at_call 54; refine (kind256_any _).mono ?_; rintro e w1 ⟨rfl, hb1⟩; skip; have HB1 := Lib.hid hb1; clear hb1)
    | (go_at_call 55; refine (sum256 _ _ xs ((HT.out.below HBX.out HT.out.size).below HB1.out (by have := HT.out.size; omega)) ((HP.out.below HBX.out).below (HB1.out.mono (Nat.le_refl _) |>.mono (Nat.le_refl _))) Hs.out hN).mono ?_; rintro e w2 ⟨rfl, hb2⟩; skip; have HB2 := Lib.hid hb2; clear hb2
       have HSL := Lib.hid (show (⟨(sha 32 (Jo.joined xs).data.toList).toArray⟩ : ByteArray).data.toList = sha 32 (Jo.joined xs).data.toList from rfl)
       have hsz : (⟨(sha 32 (Jo.joined xs).data.toList).toArray⟩ : ByteArray).size = 32 := by show (sha 32 _).toArray.size = 32; rw [List.size_toArray, HL.out]
       generalize (⟨(sha 32 (Jo.joined xs).data.toList).toArray⟩ : ByteArray) = sb at *
       have HSZ := Lib.hid hsz
       clear hsz)
    | (refine conv_bytes rfl 9 36 5 _ rfl rfl Tryz.underlying9 Tryz.underlying36 Tryz.underlying5 ?_; intro Y cap hY hfY hbY hnY hcY; have HY := Lib.hid hY; have HBY := Lib.hid hbY; clear hY hfY hbY hnY hcY)
    | (refine slice_to_array rfl 22 5 32 _ rfl _ _ _ _ rfl Tryz.underlying22 (by rw [HSZ.out]; decide) ?_)
    | (refine load_cells rfl 22 _ rfl _ 0 rfl (bytesV (sha 32 (Jo.joined xs).data.toList)) _ (HSL.out ▸ HY.out).cells Tryz.underlying22 rfl (by rw [HZ.out]; rfl) ?_)
    | (obtain ⟨cs, hcs, hB⟩ := HR.out
       refine store_blk rfl 22 _ _ rfl w.heap.size _ cs 22 rfl rfl (((hB.below HB1.out hXs).below HB2.out (by have := HB1.out.size; omega)).below HBY.out (by have := HB1.out.size; have := HB2.out.size; omega)) (by rw [HZ.out]; rfl) (by rw [hcs, HZ.out]) (bytesV_one _) ?_
       intro Z hZ hgZ; have HZZ := Lib.hid hZ; have HGZ := Lib.hid hgZ; clear hZ hgZ hcs hB))
  exact bodyPost_ret (v := .agg (bytesV (sha 32 (Jo.joined xs).data.toList)))
    (results_cell_row Tryz.results32 _ _ w.heap.size 22 _ (0, 0) _ rfl HZZ.out Tryz.underlying22 rfl (by rw [HZ.out]; rfl)) rfl
    ⟨rfl, (((HBX.out.trans (HB1.out.mono (by omega))).trans (HB2.out.mono (by have := HB1.out.size; omega))).trans (HBY.out.mono (by have := HB1.out.size; have := HB2.out.size; omega))).grown HGZ.out (by have := HB1.out.size; have := HB2.out.size; have := HBY.out.size; omega) (fun k hk => by cases hk; exact Nat.le_refl _)⟩

end Go.Proofs.YtfaeigbfnjkojaaGreatDoor.Sha
