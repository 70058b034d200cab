/- The law TermDerives. -/
import Derived.Test.YtfcemnebhapidaaDoorTmDl
import Derived.Test.YtfcemnebhapidaaDoorTmDd
set_option linter.unusedVariables false
set_option linter.unusedSimpArgs false
namespace Go.Proofs.YtfcemnebhapidaaDoor.Te
open Go.RowKit Go.Proofs.YtfcemnebhapidaaDoor.Ow Go.Proofs.YtfcemnebhapidaaDoor.Mp Go.Maps
theorem derC : DerC := fun w A n c L hn hR A2 n2 c2 Q hn2 hR2 hL hl => RDerived_any w A n c L hn hR A2 n2 c2 Q hn2 hR2 hL hl
theorem law_TermDerives (w : World) (A : Option Addr) (c : Nat) (xs : List ByteArray) (hR : Rd w A (xs.map Value.string)) (hc : xs.length ≤ c) (hm : c ≤ maxLen) (B : Option Addr) (d : Nat) (ys : List ByteArray) (hRy : Rd w B (ys.map Value.string)) (hcy : ys.length ≤ d) (hmy : d ≤ maxLen) (a : Nat → Addr) (hE : Ei.ErrsAll w a) : Calls Tryd.prog 5 #[.slice A xs.length c, .slice B ys.length d] w fun e w' => e = .returned (.bool true) ∧ Below w.heap.size w w' :=
  law_TermDerives_of derC w A c xs hR hc hm B d ys hRy hcy hmy a hE
end Go.Proofs.YtfcemnebhapidaaDoor.Te
