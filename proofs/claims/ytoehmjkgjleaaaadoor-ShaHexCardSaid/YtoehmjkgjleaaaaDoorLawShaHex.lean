/- The law ShaHex. -/
import Derived.Test.YtoehmjkgjleaaaaDoorShaAwake
import Derived.Test.YtoehmjkgjleaaaaDoorRefHex
import Derived.Deep.QuietTactic
namespace Go.Proofs.YtoehmjkgjleaaaaDoor.Sha
open Go.RowKit Go.Proofs.YtoehmjkgjleaaaaDoor.Cl Go.Proofs.YtoehmjkgjleaaaaDoor.Cv
set_option maxRecDepth 20000 in
set_option maxHeartbeats 1000000 in
theorem law_ShaHex (w : World) (s : ByteArray) (hT : Tables w) : Calls Tryd.prog 6 #[.string s] w fun e w' => e = .returned (.bool true) ∧ Below w.heap.size w w' := by
  have HT := Lib.hid hT
  clear hT
  have hsz : (s.extract 0 200).size ≤ 1000000 := by rw [ByteArray.size_extract]; omega
  have Hsz := Lib.hid hsz
  clear hsz
  go_enter Tryd.func6, Tryd.ntmps6
  go_wp2_with (first
    | (go_at_call 10; refine (awake_any _ HT.out).mono ?_; rintro e w1 ⟨rfl, hb1⟩; skip; have HB1 := Lib.hid hb1; clear hb1)
    | (go_at_call 11; refine (Cut_any _ s 200 (by decide)).mono ?_; rintro e w2 ⟨rfl, rfl⟩; skip; generalize s.extract 0 200 = t at *; have hE := hexS_size t.data.toList; rw [Array.length_toList] at hE; have hE' : (hexS t.data.toList).size = 2 * t.size := hE; clear hE; have ht := Hsz.out; have tok := True.intro)
    | (have _t := tok; go_at_call 16; refine (Hex_any _ _ Hsz.out).mono ?_; rintro e w3 ⟨rfl, hb3⟩; skip; have HB3 := Lib.hid hb3; clear hb3 _t tok; have tok2 := True.intro)
    | (go_at_call 17; refine (RefHex_any _ _ Hsz.out).mono ?_; rintro e w4 ⟨rfl, hb4⟩; skip; have HB4 := Lib.hid hb4; clear hb4)
    | (have _t := tok2; go_at_call 16; refine (Hex_any _ _ Hsz.out).mono ?_; rintro e w5 ⟨rfl, hb5⟩; skip; have HB5 := Lib.hid hb5; clear hb5 _t tok2))
  go_ret
  have h1 := HB1.out.size
  have h3 := HB3.out.size
  have h4 := HB4.out.size
  exact ⟨by simp, ((HB1.out.trans (HB3.out.mono (by omega))).trans (HB4.out.mono (by omega))).trans (HB5.out.mono (by omega))⟩
end Go.Proofs.YtoehmjkgjleaaaaDoor.Sha
