/- What the fixed facts of kex's statements need: three ladders, reckoned. -/
import Derived.Test.YtfaeigbfnjkojaaGreatDoorKfC
set_option linter.unusedVariables false
set_option linter.unusedSimpArgs false
namespace Go.Proofs.YtfaeigbfnjkojaaGreatDoor.Kx
open Go.RowKit Go.Proofs.YtfaeigbfnjkojaaGreatDoor.Cl
def kB (b : UInt8) : List UInt8 := [b, 0, 0, 0, 0, 0, 0, 0, 0, 0, 0, 0, 0, 0, 0, 0, 0, 0, 0, 0, 0, 0, 0, 0, 0, 0, 0, 0, 0, 0, 0, 0]
def b9 : List UInt8 := bytesE (mulK (kB 9) (kB 9))
set_option maxRecDepth 1000000 in
theorem awk1 : zero (mulK (kB 1) (kB 0)) = true := by decide +kernel
set_option maxRecDepth 1000000 in
theorem awk2 : zero (mulK (kB 1) b9) = false := by decide +kernel
theorem bytes_zero (x : E) (h : bytesE x = kB 0) : zero x = true := by
  have h1 := ofB_bytesE x
  rw [h] at h1
  unfold zero
  rw [← h1]
  decide +kernel
end Go.Proofs.YtfaeigbfnjkojaaGreatDoor.Kx
