/- The whole of a sum: the reference. -/
import Derived.Test.YtoehmjkgjleaaaaDoorRefBlock
import Derived.Test.YtoehmjkgjleaaaaDoorRefBlock64
import Derived.Test.YtoehmjkgjleaaaaDoorShaSum
import Derived.Test.YtoehmjkgjleaaaaDoorOwn
set_option linter.unusedVariables false
set_option linter.unusedSimpArgs false
namespace Go.Proofs.YtoehmjkgjleaaaaDoor.Sha
open Go.RowKit Go.Proofs.YtoehmjkgjleaaaaDoor.Cl Go.Proofs.YtoehmjkgjleaaaaDoor.Ws Go.Proofs.YtoehmjkgjleaaaaDoor.Cv Go.Proofs.YtoehmjkgjleaaaaDoor.Ow
theorem infoU8 : (Tryd.prog.info? 5).map (fun i => (i.zero, i.size, i.bytes)) = some (some (.int .u8 0), 1, 1) := by kernel_rfl
def zeros1 (W n : Nat) : Nat := (2 * W - (n + 1 + W / 4) % (2 * W)) % (2 * W)
theorem zeros_eq (W n : Nat) (h : 8 ≤ W / 4) : zeros W n = zeros1 W n + (W / 4 - 8) := by unfold zeros zeros1; omega
theorem zeros1_test32 (n j : Nat) (h : j ≤ zeros1 32 n) : (n + 1 + j + 8) % 64 = 0 ↔ j = zeros1 32 n := by unfold zeros1 at *; omega
theorem zeros1_test64 (n j : Nat) (h : j ≤ zeros1 64 n) : (n + 1 + j + 16) % 128 = 0 ↔ j = zeros1 64 n := by unfold zeros1 at *; omega
theorem push_zero (o : ByteArray) (a : List UInt8) (j : Nat) (h : o.data.toList = a ++ ([128] ++ List.replicate j 0)) : (o ++ (⟨#[0]⟩ : ByteArray)).data.toList = a ++ ([128] ++ List.replicate (j + 1) 0) := by
  rw [bytes_append, h, List.append_assoc, List.append_assoc, ← List.replicate_succ']
theorem be_snoc (k x q : Nat) (hq : q = x / 256 ^ k) : [Value.int .u8 ((q : Int) % 256)] ++ bv (beBytes k x) = bv (beBytes (k + 1) x) := by
  have e : bv (beBytes (k + 1) x) = bv [UInt8.ofNat (x / 256 ^ k)] ++ bv (beBytes k x) := by rw [← bv_append]; rfl
  rw [e, bv_one (UInt8.ofNat (x / 256 ^ k)) ((q : Int) % 256) (by rw [UInt8.toNat_ofNat', hq, Int.natCast_emod]; rfl)]
theorem div_next (x k q : Nat) (hq : q = x / 256 ^ k) : q / 256 = x / 256 ^ (k + 1) := by rw [hq, Nat.div_div_eq_div_mul, ← Nat.pow_succ]
theorem padded_of (W : Nat) (s o : ByteArray) (h : o.data.toList = s.data.toList ++ ([128] ++ List.replicate (zeros W s.size) 0)) : (o ++ (⟨(beBytes 8 (s.size * 8)).toArray⟩ : ByteArray)).data.toList = padded W s.data.toList := by
  rw [bytes_append, h]; unfold padded; rw [Array.length_toList]; rfl
/-- the first k of the words cut, the others whole -/
def h0p (k : Nat) : List Nat := (List.range 8).map fun i => if i < k then hi32 (nth firstL i) else nth firstL i
theorem h0p_length (k : Nat) : (h0p k).length = 8 := by simp [h0p]
theorem h0p_get (k : Nat) (hk : k < 8) : nth (h0p k) k = nth firstL k := by simp [h0p, nth, hk]
theorem h0p_set (k : Nat) (hk : k < 8) : (h0p k).set k (hi32 (nth firstL k)) = h0p (k + 1) := by
  apply List.ext_getElem
  · simp [h0p]
  · intro i h1 h2
    rw [List.getElem_set]
    simp only [h0p, List.getElem_map, List.getElem_range]
    by_cases hij : k = i
    · subst hij; simp
    · have : i < k + 1 ↔ i < k := by omega
      simp [hij, this]
theorem h0p_zero : h0p 0 = firstL := by rfl
theorem h0p_all : h0p 8 = h0 32 := by rfl
theorem h0_64 : h0 64 = firstL := by rfl
theorem extract_mid (s : ByteArray) (a b : Nat) : (s.extract a (a + b)).data.toList = (s.data.toList.drop a).take b := by
  simp [List.take_drop]
theorem out_snoc (W : Nat) (hs : List Nat) (j : Nat) (hj : j < hs.length) : bv (outBytes W (hs.take (j + 1))) = bv (outBytes W (hs.take j)) ++ bv (beBytes (W / 8) (nth hs j)) := outBytes_snoc W hs j hj
theorem be_take (m x k : Nat) (h : k < m) (e : Nat) (he : e = 8 * (m - 1 - k)) : bv ((beBytes m x).take k) ++ [.int .u8 ((x : Int) / 2 ^ e % 256)] = bv ((beBytes m x).take (k + 1)) := (be_cells m x k h e he).symm
theorem words8 {w : World} {b c : Nat} {hh : List Nat} (h : At8 w b hh) (hl : hh.length = 8) (hc : 8 ≤ c) : Words w (.slice (some ⟨b, 0, none⟩) 8 c) hh :=
  ⟨b, c, by rw [hl], by omega, h.1, fun j hj => h.2 j (by omega)⟩
theorem at8_words {w : World} {v : Value} {hh : List Nat} (h : Words w v hh) (hl : hh.length = 8) : ∃ b c, v = .slice (some ⟨b, 0, none⟩) 8 c ∧ 8 ≤ c ∧ At8 w b hh := by
  obtain ⟨b, c, hv, hc, hb, hx⟩ := h
  exact ⟨b, c, by rw [hv, hl], by omega, hb, fun j hj => hx j (by omega)⟩
theorem size_of (o : ByteArray) (l : List UInt8) (h : o.data.toList = l) : o.size = l.length := by rw [← h, Array.length_toList]; rfl
end Go.Proofs.YtoehmjkgjleaaaaDoor.Sha
