/- The shapes of commands. -/
import Derived.Test.YtonjgfbefhefjaaDoorLnA
import Derived.Deep.DeepHandedRow
set_option linter.unusedVariables false
set_option linter.unusedSimpArgs false
namespace Go.Proofs.YtonjgfbefhefjaaDoor.Ln
open Go Go.RowKit Go.Proofs.YtonjgfbefhefjaaDoor.Ow
/-- a word's shape, and whether it is a command -/
def shpV (l : List UInt8) : List UInt8 × Bool := match shp l with
  | some sh => (sh, true)
  | none => ([], false)
theorem shp_none {l : List UInt8} (h : ∀ r ∈ tab, r.1 ≠ l) : shp l = none := by
  unfold shp
  rw [List.find?_eq_none.2 (fun r hr => by simpa using h r hr)]; rfl
theorem shp_world : shpV [119, 111, 114, 108, 100] = ([110, 35, 35, 35, 35, 35, 35], true) := rfl
theorem shp_grant : shpV [103, 114, 97, 110, 116] = ([110, 110], true) := rfl
theorem shp_revoke : shpV [114, 101, 118, 111, 107, 101] = ([110], true) := rfl
theorem shp_join : shpV [106, 111, 105, 110] = ([110, 110], true) := rfl
theorem shp_cut : shpV [99, 117, 116] = ([110], true) := rfl
theorem shp_forward : shpV [102, 111, 114, 119, 97, 114, 100] = ([110, 110], true) := rfl
theorem shp_cancel : shpV [99, 97, 110, 99, 101, 108] = ([110, 110], true) := rfl
theorem shp_beat : shpV [98, 101, 97, 116] = ([110], true) := rfl
theorem shp_dial : shpV [100, 105, 97, 108] = ([110, 110, 110], true) := rfl
theorem shp_say : shpV [115, 97, 121] = ([110, 35, 116], true) := rfl
theorem shp_hear : shpV [104, 101, 97, 114] = ([110, 35, 35], true) := rfl
theorem shp_end : shpV [101, 110, 100] = ([110, 35], true) := rfl
theorem shp_carry : shpV [99, 97, 114, 114, 121] = ([110, 35, 35], true) := rfl
theorem shp_run : shpV [114, 117, 110] = ([35], true) := rfl
theorem shp_tick : shpV [116, 105, 99, 107] = ([35], true) := rfl
theorem shp_keep : shpV [107, 101, 101, 112] = ([110, 110, 35, 35, 35, 42], true) := rfl
theorem shp_leave : shpV [108, 101, 97, 118, 101] = ([110], true) := rfl
theorem shp_told : shpV [116, 111, 108, 100] = ([110], true) := rfl
theorem shp_names : shpV [110, 97, 109, 101, 115] = ([], true) := rfl
theorem shp_leases : shpV [108, 101, 97, 115, 101, 115] = ([], true) := rfl
theorem shp_streams : shpV [115, 116, 114, 101, 97, 109, 115] = ([], true) := rfl
theorem shp_kept : shpV [107, 101, 112, 116] = ([], true) := rfl
theorem shp_save : shpV [115, 97, 118, 101] = ([110, 35], true) := rfl
theorem shp_load : shpV [108, 111, 97, 100] = ([110, 35, 116], true) := rfl
set_option maxRecDepth 20000 in
set_option maxHeartbeats 8000000 in
theorem RefShape_yes (S : ByteArray) (w : World) (h : (shpV S.data.toList).2 = true) :
    Calls Tryd.prog 22 #[.string S] w fun e w' => e = .returned (.tuple #[.string (strB (shpV S.data.toList).1), .bool true]) ∧ w = w' := by
  have hm : ∃ r ∈ tab, r.1 = S.data.toList := by
    by_cases e : ∃ r ∈ tab, r.1 = S.data.toList
    · exact e
    · rw [shpV, shp_none (fun r hr e' => e ⟨r, hr, e'⟩)] at h; cases h
  clear h
  obtain ⟨r, hr, hS⟩ := hm
  unfold tab at hr
  simp only [List.mem_cons, List.not_mem_nil, or_false] at hr
  rcases hr with rfl | rfl | rfl | rfl | rfl | rfl | rfl | rfl | rfl | rfl | rfl | rfl | rfl | rfl | rfl | rfl | rfl | rfl | rfl | rfl | rfl | rfl | rfl | rfl
  · simp only at hS
    have HV := Lib.hid (show shpV S.data.toList = ([110, 35, 35, 35, 35, 35, 35], true) by rw [← hS]; rfl)
    have qworld := beq_lit hS.symm
    have qgrant := bne_lit (S := S) (l := [103, 114, 97, 110, 116]) (by rw [← hS]; decide)
    have qrevoke := bne_lit (S := S) (l := [114, 101, 118, 111, 107, 101]) (by rw [← hS]; decide)
    have qjoin := bne_lit (S := S) (l := [106, 111, 105, 110]) (by rw [← hS]; decide)
    have qcut := bne_lit (S := S) (l := [99, 117, 116]) (by rw [← hS]; decide)
    have qforward := bne_lit (S := S) (l := [102, 111, 114, 119, 97, 114, 100]) (by rw [← hS]; decide)
    have qcancel := bne_lit (S := S) (l := [99, 97, 110, 99, 101, 108]) (by rw [← hS]; decide)
    have qbeat := bne_lit (S := S) (l := [98, 101, 97, 116]) (by rw [← hS]; decide)
    have qdial := bne_lit (S := S) (l := [100, 105, 97, 108]) (by rw [← hS]; decide)
    have qsay := bne_lit (S := S) (l := [115, 97, 121]) (by rw [← hS]; decide)
    have qhear := bne_lit (S := S) (l := [104, 101, 97, 114]) (by rw [← hS]; decide)
    have qend := bne_lit (S := S) (l := [101, 110, 100]) (by rw [← hS]; decide)
    have qcarry := bne_lit (S := S) (l := [99, 97, 114, 114, 121]) (by rw [← hS]; decide)
    have qrun := bne_lit (S := S) (l := [114, 117, 110]) (by rw [← hS]; decide)
    have qtick := bne_lit (S := S) (l := [116, 105, 99, 107]) (by rw [← hS]; decide)
    have qkeep := bne_lit (S := S) (l := [107, 101, 101, 112]) (by rw [← hS]; decide)
    have qleave := bne_lit (S := S) (l := [108, 101, 97, 118, 101]) (by rw [← hS]; decide)
    have qtold := bne_lit (S := S) (l := [116, 111, 108, 100]) (by rw [← hS]; decide)
    have qnames := bne_lit (S := S) (l := [110, 97, 109, 101, 115]) (by rw [← hS]; decide)
    have qleases := bne_lit (S := S) (l := [108, 101, 97, 115, 101, 115]) (by rw [← hS]; decide)
    have qstreams := bne_lit (S := S) (l := [115, 116, 114, 101, 97, 109, 115]) (by rw [← hS]; decide)
    have qkept := bne_lit (S := S) (l := [107, 101, 112, 116]) (by rw [← hS]; decide)
    have qsave := bne_lit (S := S) (l := [115, 97, 118, 101]) (by rw [← hS]; decide)
    have qload := bne_lit (S := S) (l := [108, 111, 97, 100]) (by rw [← hS]; decide)
    clear hS
    go_enter Tryd.func22, Tryd.ntmps22
    go_wp2
    go_ret2
    exact ⟨by rw [HV.out]; rfl, rfl⟩
  · simp only at hS
    have HV := Lib.hid (show shpV S.data.toList = ([110, 110], true) by rw [← hS]; rfl)
    have qworld := bne_lit (S := S) (l := [119, 111, 114, 108, 100]) (by rw [← hS]; decide)
    have qgrant := beq_lit hS.symm
    have qrevoke := bne_lit (S := S) (l := [114, 101, 118, 111, 107, 101]) (by rw [← hS]; decide)
    have qjoin := bne_lit (S := S) (l := [106, 111, 105, 110]) (by rw [← hS]; decide)
    have qcut := bne_lit (S := S) (l := [99, 117, 116]) (by rw [← hS]; decide)
    have qforward := bne_lit (S := S) (l := [102, 111, 114, 119, 97, 114, 100]) (by rw [← hS]; decide)
    have qcancel := bne_lit (S := S) (l := [99, 97, 110, 99, 101, 108]) (by rw [← hS]; decide)
    have qbeat := bne_lit (S := S) (l := [98, 101, 97, 116]) (by rw [← hS]; decide)
    have qdial := bne_lit (S := S) (l := [100, 105, 97, 108]) (by rw [← hS]; decide)
    have qsay := bne_lit (S := S) (l := [115, 97, 121]) (by rw [← hS]; decide)
    have qhear := bne_lit (S := S) (l := [104, 101, 97, 114]) (by rw [← hS]; decide)
    have qend := bne_lit (S := S) (l := [101, 110, 100]) (by rw [← hS]; decide)
    have qcarry := bne_lit (S := S) (l := [99, 97, 114, 114, 121]) (by rw [← hS]; decide)
    have qrun := bne_lit (S := S) (l := [114, 117, 110]) (by rw [← hS]; decide)
    have qtick := bne_lit (S := S) (l := [116, 105, 99, 107]) (by rw [← hS]; decide)
    have qkeep := bne_lit (S := S) (l := [107, 101, 101, 112]) (by rw [← hS]; decide)
    have qleave := bne_lit (S := S) (l := [108, 101, 97, 118, 101]) (by rw [← hS]; decide)
    have qtold := bne_lit (S := S) (l := [116, 111, 108, 100]) (by rw [← hS]; decide)
    have qnames := bne_lit (S := S) (l := [110, 97, 109, 101, 115]) (by rw [← hS]; decide)
    have qleases := bne_lit (S := S) (l := [108, 101, 97, 115, 101, 115]) (by rw [← hS]; decide)
    have qstreams := bne_lit (S := S) (l := [115, 116, 114, 101, 97, 109, 115]) (by rw [← hS]; decide)
    have qkept := bne_lit (S := S) (l := [107, 101, 112, 116]) (by rw [← hS]; decide)
    have qsave := bne_lit (S := S) (l := [115, 97, 118, 101]) (by rw [← hS]; decide)
    have qload := bne_lit (S := S) (l := [108, 111, 97, 100]) (by rw [← hS]; decide)
    clear hS
    go_enter Tryd.func22, Tryd.ntmps22
    go_wp2
    go_ret2
    exact ⟨by rw [HV.out]; rfl, rfl⟩
  · simp only at hS
    have HV := Lib.hid (show shpV S.data.toList = ([110], true) by rw [← hS]; rfl)
    have qworld := bne_lit (S := S) (l := [119, 111, 114, 108, 100]) (by rw [← hS]; decide)
    have qgrant := bne_lit (S := S) (l := [103, 114, 97, 110, 116]) (by rw [← hS]; decide)
    have qrevoke := beq_lit hS.symm
    have qjoin := bne_lit (S := S) (l := [106, 111, 105, 110]) (by rw [← hS]; decide)
    have qcut := bne_lit (S := S) (l := [99, 117, 116]) (by rw [← hS]; decide)
    have qforward := bne_lit (S := S) (l := [102, 111, 114, 119, 97, 114, 100]) (by rw [← hS]; decide)
    have qcancel := bne_lit (S := S) (l := [99, 97, 110, 99, 101, 108]) (by rw [← hS]; decide)
    have qbeat := bne_lit (S := S) (l := [98, 101, 97, 116]) (by rw [← hS]; decide)
    have qdial := bne_lit (S := S) (l := [100, 105, 97, 108]) (by rw [← hS]; decide)
    have qsay := bne_lit (S := S) (l := [115, 97, 121]) (by rw [← hS]; decide)
    have qhear := bne_lit (S := S) (l := [104, 101, 97, 114]) (by rw [← hS]; decide)
    have qend := bne_lit (S := S) (l := [101, 110, 100]) (by rw [← hS]; decide)
    have qcarry := bne_lit (S := S) (l := [99, 97, 114, 114, 121]) (by rw [← hS]; decide)
    have qrun := bne_lit (S := S) (l := [114, 117, 110]) (by rw [← hS]; decide)
    have qtick := bne_lit (S := S) (l := [116, 105, 99, 107]) (by rw [← hS]; decide)
    have qkeep := bne_lit (S := S) (l := [107, 101, 101, 112]) (by rw [← hS]; decide)
    have qleave := bne_lit (S := S) (l := [108, 101, 97, 118, 101]) (by rw [← hS]; decide)
    have qtold := bne_lit (S := S) (l := [116, 111, 108, 100]) (by rw [← hS]; decide)
    have qnames := bne_lit (S := S) (l := [110, 97, 109, 101, 115]) (by rw [← hS]; decide)
    have qleases := bne_lit (S := S) (l := [108, 101, 97, 115, 101, 115]) (by rw [← hS]; decide)
    have qstreams := bne_lit (S := S) (l := [115, 116, 114, 101, 97, 109, 115]) (by rw [← hS]; decide)
    have qkept := bne_lit (S := S) (l := [107, 101, 112, 116]) (by rw [← hS]; decide)
    have qsave := bne_lit (S := S) (l := [115, 97, 118, 101]) (by rw [← hS]; decide)
    have qload := bne_lit (S := S) (l := [108, 111, 97, 100]) (by rw [← hS]; decide)
    clear hS
    go_enter Tryd.func22, Tryd.ntmps22
    go_wp2
    go_ret2
    exact ⟨by rw [HV.out]; rfl, rfl⟩
  · simp only at hS
    have HV := Lib.hid (show shpV S.data.toList = ([110, 110], true) by rw [← hS]; rfl)
    have qworld := bne_lit (S := S) (l := [119, 111, 114, 108, 100]) (by rw [← hS]; decide)
    have qgrant := bne_lit (S := S) (l := [103, 114, 97, 110, 116]) (by rw [← hS]; decide)
    have qrevoke := bne_lit (S := S) (l := [114, 101, 118, 111, 107, 101]) (by rw [← hS]; decide)
    have qjoin := beq_lit hS.symm
    have qcut := bne_lit (S := S) (l := [99, 117, 116]) (by rw [← hS]; decide)
    have qforward := bne_lit (S := S) (l := [102, 111, 114, 119, 97, 114, 100]) (by rw [← hS]; decide)
    have qcancel := bne_lit (S := S) (l := [99, 97, 110, 99, 101, 108]) (by rw [← hS]; decide)
    have qbeat := bne_lit (S := S) (l := [98, 101, 97, 116]) (by rw [← hS]; decide)
    have qdial := bne_lit (S := S) (l := [100, 105, 97, 108]) (by rw [← hS]; decide)
    have qsay := bne_lit (S := S) (l := [115, 97, 121]) (by rw [← hS]; decide)
    have qhear := bne_lit (S := S) (l := [104, 101, 97, 114]) (by rw [← hS]; decide)
    have qend := bne_lit (S := S) (l := [101, 110, 100]) (by rw [← hS]; decide)
    have qcarry := bne_lit (S := S) (l := [99, 97, 114, 114, 121]) (by rw [← hS]; decide)
    have qrun := bne_lit (S := S) (l := [114, 117, 110]) (by rw [← hS]; decide)
    have qtick := bne_lit (S := S) (l := [116, 105, 99, 107]) (by rw [← hS]; decide)
    have qkeep := bne_lit (S := S) (l := [107, 101, 101, 112]) (by rw [← hS]; decide)
    have qleave := bne_lit (S := S) (l := [108, 101, 97, 118, 101]) (by rw [← hS]; decide)
    have qtold := bne_lit (S := S) (l := [116, 111, 108, 100]) (by rw [← hS]; decide)
    have qnames := bne_lit (S := S) (l := [110, 97, 109, 101, 115]) (by rw [← hS]; decide)
    have qleases := bne_lit (S := S) (l := [108, 101, 97, 115, 101, 115]) (by rw [← hS]; decide)
    have qstreams := bne_lit (S := S) (l := [115, 116, 114, 101, 97, 109, 115]) (by rw [← hS]; decide)
    have qkept := bne_lit (S := S) (l := [107, 101, 112, 116]) (by rw [← hS]; decide)
    have qsave := bne_lit (S := S) (l := [115, 97, 118, 101]) (by rw [← hS]; decide)
    have qload := bne_lit (S := S) (l := [108, 111, 97, 100]) (by rw [← hS]; decide)
    clear hS
    go_enter Tryd.func22, Tryd.ntmps22
    go_wp2
    go_ret2
    exact ⟨by rw [HV.out]; rfl, rfl⟩
  · simp only at hS
    have HV := Lib.hid (show shpV S.data.toList = ([110], true) by rw [← hS]; rfl)
    have qworld := bne_lit (S := S) (l := [119, 111, 114, 108, 100]) (by rw [← hS]; decide)
    have qgrant := bne_lit (S := S) (l := [103, 114, 97, 110, 116]) (by rw [← hS]; decide)
    have qrevoke := bne_lit (S := S) (l := [114, 101, 118, 111, 107, 101]) (by rw [← hS]; decide)
    have qjoin := bne_lit (S := S) (l := [106, 111, 105, 110]) (by rw [← hS]; decide)
    have qcut := beq_lit hS.symm
    have qforward := bne_lit (S := S) (l := [102, 111, 114, 119, 97, 114, 100]) (by rw [← hS]; decide)
    have qcancel := bne_lit (S := S) (l := [99, 97, 110, 99, 101, 108]) (by rw [← hS]; decide)
    have qbeat := bne_lit (S := S) (l := [98, 101, 97, 116]) (by rw [← hS]; decide)
    have qdial := bne_lit (S := S) (l := [100, 105, 97, 108]) (by rw [← hS]; decide)
    have qsay := bne_lit (S := S) (l := [115, 97, 121]) (by rw [← hS]; decide)
    have qhear := bne_lit (S := S) (l := [104, 101, 97, 114]) (by rw [← hS]; decide)
    have qend := bne_lit (S := S) (l := [101, 110, 100]) (by rw [← hS]; decide)
    have qcarry := bne_lit (S := S) (l := [99, 97, 114, 114, 121]) (by rw [← hS]; decide)
    have qrun := bne_lit (S := S) (l := [114, 117, 110]) (by rw [← hS]; decide)
    have qtick := bne_lit (S := S) (l := [116, 105, 99, 107]) (by rw [← hS]; decide)
    have qkeep := bne_lit (S := S) (l := [107, 101, 101, 112]) (by rw [← hS]; decide)
    have qleave := bne_lit (S := S) (l := [108, 101, 97, 118, 101]) (by rw [← hS]; decide)
    have qtold := bne_lit (S := S) (l := [116, 111, 108, 100]) (by rw [← hS]; decide)
    have qnames := bne_lit (S := S) (l := [110, 97, 109, 101, 115]) (by rw [← hS]; decide)
    have qleases := bne_lit (S := S) (l := [108, 101, 97, 115, 101, 115]) (by rw [← hS]; decide)
    have qstreams := bne_lit (S := S) (l := [115, 116, 114, 101, 97, 109, 115]) (by rw [← hS]; decide)
    have qkept := bne_lit (S := S) (l := [107, 101, 112, 116]) (by rw [← hS]; decide)
    have qsave := bne_lit (S := S) (l := [115, 97, 118, 101]) (by rw [← hS]; decide)
    have qload := bne_lit (S := S) (l := [108, 111, 97, 100]) (by rw [← hS]; decide)
    clear hS
    go_enter Tryd.func22, Tryd.ntmps22
    go_wp2
    go_ret2
    exact ⟨by rw [HV.out]; rfl, rfl⟩
  · simp only at hS
    have HV := Lib.hid (show shpV S.data.toList = ([110, 110], true) by rw [← hS]; rfl)
    have qworld := bne_lit (S := S) (l := [119, 111, 114, 108, 100]) (by rw [← hS]; decide)
    have qgrant := bne_lit (S := S) (l := [103, 114, 97, 110, 116]) (by rw [← hS]; decide)
    have qrevoke := bne_lit (S := S) (l := [114, 101, 118, 111, 107, 101]) (by rw [← hS]; decide)
    have qjoin := bne_lit (S := S) (l := [106, 111, 105, 110]) (by rw [← hS]; decide)
    have qcut := bne_lit (S := S) (l := [99, 117, 116]) (by rw [← hS]; decide)
    have qforward := beq_lit hS.symm
    have qcancel := bne_lit (S := S) (l := [99, 97, 110, 99, 101, 108]) (by rw [← hS]; decide)
    have qbeat := bne_lit (S := S) (l := [98, 101, 97, 116]) (by rw [← hS]; decide)
    have qdial := bne_lit (S := S) (l := [100, 105, 97, 108]) (by rw [← hS]; decide)
    have qsay := bne_lit (S := S) (l := [115, 97, 121]) (by rw [← hS]; decide)
    have qhear := bne_lit (S := S) (l := [104, 101, 97, 114]) (by rw [← hS]; decide)
    have qend := bne_lit (S := S) (l := [101, 110, 100]) (by rw [← hS]; decide)
    have qcarry := bne_lit (S := S) (l := [99, 97, 114, 114, 121]) (by rw [← hS]; decide)
    have qrun := bne_lit (S := S) (l := [114, 117, 110]) (by rw [← hS]; decide)
    have qtick := bne_lit (S := S) (l := [116, 105, 99, 107]) (by rw [← hS]; decide)
    have qkeep := bne_lit (S := S) (l := [107, 101, 101, 112]) (by rw [← hS]; decide)
    have qleave := bne_lit (S := S) (l := [108, 101, 97, 118, 101]) (by rw [← hS]; decide)
    have qtold := bne_lit (S := S) (l := [116, 111, 108, 100]) (by rw [← hS]; decide)
    have qnames := bne_lit (S := S) (l := [110, 97, 109, 101, 115]) (by rw [← hS]; decide)
    have qleases := bne_lit (S := S) (l := [108, 101, 97, 115, 101, 115]) (by rw [← hS]; decide)
    have qstreams := bne_lit (S := S) (l := [115, 116, 114, 101, 97, 109, 115]) (by rw [← hS]; decide)
    have qkept := bne_lit (S := S) (l := [107, 101, 112, 116]) (by rw [← hS]; decide)
    have qsave := bne_lit (S := S) (l := [115, 97, 118, 101]) (by rw [← hS]; decide)
    have qload := bne_lit (S := S) (l := [108, 111, 97, 100]) (by rw [← hS]; decide)
    clear hS
    go_enter Tryd.func22, Tryd.ntmps22
    go_wp2
    go_ret2
    exact ⟨by rw [HV.out]; rfl, rfl⟩
  · simp only at hS
    have HV := Lib.hid (show shpV S.data.toList = ([110, 110], true) by rw [← hS]; rfl)
    have qworld := bne_lit (S := S) (l := [119, 111, 114, 108, 100]) (by rw [← hS]; decide)
    have qgrant := bne_lit (S := S) (l := [103, 114, 97, 110, 116]) (by rw [← hS]; decide)
    have qrevoke := bne_lit (S := S) (l := [114, 101, 118, 111, 107, 101]) (by rw [← hS]; decide)
    have qjoin := bne_lit (S := S) (l := [106, 111, 105, 110]) (by rw [← hS]; decide)
    have qcut := bne_lit (S := S) (l := [99, 117, 116]) (by rw [← hS]; decide)
    have qforward := bne_lit (S := S) (l := [102, 111, 114, 119, 97, 114, 100]) (by rw [← hS]; decide)
    have qcancel := beq_lit hS.symm
    have qbeat := bne_lit (S := S) (l := [98, 101, 97, 116]) (by rw [← hS]; decide)
    have qdial := bne_lit (S := S) (l := [100, 105, 97, 108]) (by rw [← hS]; decide)
    have qsay := bne_lit (S := S) (l := [115, 97, 121]) (by rw [← hS]; decide)
    have qhear := bne_lit (S := S) (l := [104, 101, 97, 114]) (by rw [← hS]; decide)
    have qend := bne_lit (S := S) (l := [101, 110, 100]) (by rw [← hS]; decide)
    have qcarry := bne_lit (S := S) (l := [99, 97, 114, 114, 121]) (by rw [← hS]; decide)
    have qrun := bne_lit (S := S) (l := [114, 117, 110]) (by rw [← hS]; decide)
    have qtick := bne_lit (S := S) (l := [116, 105, 99, 107]) (by rw [← hS]; decide)
    have qkeep := bne_lit (S := S) (l := [107, 101, 101, 112]) (by rw [← hS]; decide)
    have qleave := bne_lit (S := S) (l := [108, 101, 97, 118, 101]) (by rw [← hS]; decide)
    have qtold := bne_lit (S := S) (l := [116, 111, 108, 100]) (by rw [← hS]; decide)
    have qnames := bne_lit (S := S) (l := [110, 97, 109, 101, 115]) (by rw [← hS]; decide)
    have qleases := bne_lit (S := S) (l := [108, 101, 97, 115, 101, 115]) (by rw [← hS]; decide)
    have qstreams := bne_lit (S := S) (l := [115, 116, 114, 101, 97, 109, 115]) (by rw [← hS]; decide)
    have qkept := bne_lit (S := S) (l := [107, 101, 112, 116]) (by rw [← hS]; decide)
    have qsave := bne_lit (S := S) (l := [115, 97, 118, 101]) (by rw [← hS]; decide)
    have qload := bne_lit (S := S) (l := [108, 111, 97, 100]) (by rw [← hS]; decide)
    clear hS
    go_enter Tryd.func22, Tryd.ntmps22
    go_wp2
    go_ret2
    exact ⟨by rw [HV.out]; rfl, rfl⟩
  · simp only at hS
    have HV := Lib.hid (show shpV S.data.toList = ([110], true) by rw [← hS]; rfl)
    have qworld := bne_lit (S := S) (l := [119, 111, 114, 108, 100]) (by rw [← hS]; decide)
    have qgrant := bne_lit (S := S) (l := [103, 114, 97, 110, 116]) (by rw [← hS]; decide)
    have qrevoke := bne_lit (S := S) (l := [114, 101, 118, 111, 107, 101]) (by rw [← hS]; decide)
    have qjoin := bne_lit (S := S) (l := [106, 111, 105, 110]) (by rw [← hS]; decide)
    have qcut := bne_lit (S := S) (l := [99, 117, 116]) (by rw [← hS]; decide)
    have qforward := bne_lit (S := S) (l := [102, 111, 114, 119, 97, 114, 100]) (by rw [← hS]; decide)
    have qcancel := bne_lit (S := S) (l := [99, 97, 110, 99, 101, 108]) (by rw [← hS]; decide)
    have qbeat := beq_lit hS.symm
    have qdial := bne_lit (S := S) (l := [100, 105, 97, 108]) (by rw [← hS]; decide)
    have qsay := bne_lit (S := S) (l := [115, 97, 121]) (by rw [← hS]; decide)
    have qhear := bne_lit (S := S) (l := [104, 101, 97, 114]) (by rw [← hS]; decide)
    have qend := bne_lit (S := S) (l := [101, 110, 100]) (by rw [← hS]; decide)
    have qcarry := bne_lit (S := S) (l := [99, 97, 114, 114, 121]) (by rw [← hS]; decide)
    have qrun := bne_lit (S := S) (l := [114, 117, 110]) (by rw [← hS]; decide)
    have qtick := bne_lit (S := S) (l := [116, 105, 99, 107]) (by rw [← hS]; decide)
    have qkeep := bne_lit (S := S) (l := [107, 101, 101, 112]) (by rw [← hS]; decide)
    have qleave := bne_lit (S := S) (l := [108, 101, 97, 118, 101]) (by rw [← hS]; decide)
    have qtold := bne_lit (S := S) (l := [116, 111, 108, 100]) (by rw [← hS]; decide)
    have qnames := bne_lit (S := S) (l := [110, 97, 109, 101, 115]) (by rw [← hS]; decide)
    have qleases := bne_lit (S := S) (l := [108, 101, 97, 115, 101, 115]) (by rw [← hS]; decide)
    have qstreams := bne_lit (S := S) (l := [115, 116, 114, 101, 97, 109, 115]) (by rw [← hS]; decide)
    have qkept := bne_lit (S := S) (l := [107, 101, 112, 116]) (by rw [← hS]; decide)
    have qsave := bne_lit (S := S) (l := [115, 97, 118, 101]) (by rw [← hS]; decide)
    have qload := bne_lit (S := S) (l := [108, 111, 97, 100]) (by rw [← hS]; decide)
    clear hS
    go_enter Tryd.func22, Tryd.ntmps22
    go_wp2
    go_ret2
    exact ⟨by rw [HV.out]; rfl, rfl⟩
  · simp only at hS
    have HV := Lib.hid (show shpV S.data.toList = ([110, 110, 110], true) by rw [← hS]; rfl)
    have qworld := bne_lit (S := S) (l := [119, 111, 114, 108, 100]) (by rw [← hS]; decide)
    have qgrant := bne_lit (S := S) (l := [103, 114, 97, 110, 116]) (by rw [← hS]; decide)
    have qrevoke := bne_lit (S := S) (l := [114, 101, 118, 111, 107, 101]) (by rw [← hS]; decide)
    have qjoin := bne_lit (S := S) (l := [106, 111, 105, 110]) (by rw [← hS]; decide)
    have qcut := bne_lit (S := S) (l := [99, 117, 116]) (by rw [← hS]; decide)
    have qforward := bne_lit (S := S) (l := [102, 111, 114, 119, 97, 114, 100]) (by rw [← hS]; decide)
    have qcancel := bne_lit (S := S) (l := [99, 97, 110, 99, 101, 108]) (by rw [← hS]; decide)
    have qbeat := bne_lit (S := S) (l := [98, 101, 97, 116]) (by rw [← hS]; decide)
    have qdial := beq_lit hS.symm
    have qsay := bne_lit (S := S) (l := [115, 97, 121]) (by rw [← hS]; decide)
    have qhear := bne_lit (S := S) (l := [104, 101, 97, 114]) (by rw [← hS]; decide)
    have qend := bne_lit (S := S) (l := [101, 110, 100]) (by rw [← hS]; decide)
    have qcarry := bne_lit (S := S) (l := [99, 97, 114, 114, 121]) (by rw [← hS]; decide)
    have qrun := bne_lit (S := S) (l := [114, 117, 110]) (by rw [← hS]; decide)
    have qtick := bne_lit (S := S) (l := [116, 105, 99, 107]) (by rw [← hS]; decide)
    have qkeep := bne_lit (S := S) (l := [107, 101, 101, 112]) (by rw [← hS]; decide)
    have qleave := bne_lit (S := S) (l := [108, 101, 97, 118, 101]) (by rw [← hS]; decide)
    have qtold := bne_lit (S := S) (l := [116, 111, 108, 100]) (by rw [← hS]; decide)
    have qnames := bne_lit (S := S) (l := [110, 97, 109, 101, 115]) (by rw [← hS]; decide)
    have qleases := bne_lit (S := S) (l := [108, 101, 97, 115, 101, 115]) (by rw [← hS]; decide)
    have qstreams := bne_lit (S := S) (l := [115, 116, 114, 101, 97, 109, 115]) (by rw [← hS]; decide)
    have qkept := bne_lit (S := S) (l := [107, 101, 112, 116]) (by rw [← hS]; decide)
    have qsave := bne_lit (S := S) (l := [115, 97, 118, 101]) (by rw [← hS]; decide)
    have qload := bne_lit (S := S) (l := [108, 111, 97, 100]) (by rw [← hS]; decide)
    clear hS
    go_enter Tryd.func22, Tryd.ntmps22
    go_wp2
    go_ret2
    exact ⟨by rw [HV.out]; rfl, rfl⟩
  · simp only at hS
    have HV := Lib.hid (show shpV S.data.toList = ([110, 35, 116], true) by rw [← hS]; rfl)
    have qworld := bne_lit (S := S) (l := [119, 111, 114, 108, 100]) (by rw [← hS]; decide)
    have qgrant := bne_lit (S := S) (l := [103, 114, 97, 110, 116]) (by rw [← hS]; decide)
    have qrevoke := bne_lit (S := S) (l := [114, 101, 118, 111, 107, 101]) (by rw [← hS]; decide)
    have qjoin := bne_lit (S := S) (l := [106, 111, 105, 110]) (by rw [← hS]; decide)
    have qcut := bne_lit (S := S) (l := [99, 117, 116]) (by rw [← hS]; decide)
    have qforward := bne_lit (S := S) (l := [102, 111, 114, 119, 97, 114, 100]) (by rw [← hS]; decide)
    have qcancel := bne_lit (S := S) (l := [99, 97, 110, 99, 101, 108]) (by rw [← hS]; decide)
    have qbeat := bne_lit (S := S) (l := [98, 101, 97, 116]) (by rw [← hS]; decide)
    have qdial := bne_lit (S := S) (l := [100, 105, 97, 108]) (by rw [← hS]; decide)
    have qsay := beq_lit hS.symm
    have qhear := bne_lit (S := S) (l := [104, 101, 97, 114]) (by rw [← hS]; decide)
    have qend := bne_lit (S := S) (l := [101, 110, 100]) (by rw [← hS]; decide)
    have qcarry := bne_lit (S := S) (l := [99, 97, 114, 114, 121]) (by rw [← hS]; decide)
    have qrun := bne_lit (S := S) (l := [114, 117, 110]) (by rw [← hS]; decide)
    have qtick := bne_lit (S := S) (l := [116, 105, 99, 107]) (by rw [← hS]; decide)
    have qkeep := bne_lit (S := S) (l := [107, 101, 101, 112]) (by rw [← hS]; decide)
    have qleave := bne_lit (S := S) (l := [108, 101, 97, 118, 101]) (by rw [← hS]; decide)
    have qtold := bne_lit (S := S) (l := [116, 111, 108, 100]) (by rw [← hS]; decide)
    have qnames := bne_lit (S := S) (l := [110, 97, 109, 101, 115]) (by rw [← hS]; decide)
    have qleases := bne_lit (S := S) (l := [108, 101, 97, 115, 101, 115]) (by rw [← hS]; decide)
    have qstreams := bne_lit (S := S) (l := [115, 116, 114, 101, 97, 109, 115]) (by rw [← hS]; decide)
    have qkept := bne_lit (S := S) (l := [107, 101, 112, 116]) (by rw [← hS]; decide)
    have qsave := bne_lit (S := S) (l := [115, 97, 118, 101]) (by rw [← hS]; decide)
    have qload := bne_lit (S := S) (l := [108, 111, 97, 100]) (by rw [← hS]; decide)
    clear hS
    go_enter Tryd.func22, Tryd.ntmps22
    go_wp2
    go_ret2
    exact ⟨by rw [HV.out]; rfl, rfl⟩
  · simp only at hS
    have HV := Lib.hid (show shpV S.data.toList = ([110, 35, 35], true) by rw [← hS]; rfl)
    have qworld := bne_lit (S := S) (l := [119, 111, 114, 108, 100]) (by rw [← hS]; decide)
    have qgrant := bne_lit (S := S) (l := [103, 114, 97, 110, 116]) (by rw [← hS]; decide)
    have qrevoke := bne_lit (S := S) (l := [114, 101, 118, 111, 107, 101]) (by rw [← hS]; decide)
    have qjoin := bne_lit (S := S) (l := [106, 111, 105, 110]) (by rw [← hS]; decide)
    have qcut := bne_lit (S := S) (l := [99, 117, 116]) (by rw [← hS]; decide)
    have qforward := bne_lit (S := S) (l := [102, 111, 114, 119, 97, 114, 100]) (by rw [← hS]; decide)
    have qcancel := bne_lit (S := S) (l := [99, 97, 110, 99, 101, 108]) (by rw [← hS]; decide)
    have qbeat := bne_lit (S := S) (l := [98, 101, 97, 116]) (by rw [← hS]; decide)
    have qdial := bne_lit (S := S) (l := [100, 105, 97, 108]) (by rw [← hS]; decide)
    have qsay := bne_lit (S := S) (l := [115, 97, 121]) (by rw [← hS]; decide)
    have qhear := beq_lit hS.symm
    have qend := bne_lit (S := S) (l := [101, 110, 100]) (by rw [← hS]; decide)
    have qcarry := bne_lit (S := S) (l := [99, 97, 114, 114, 121]) (by rw [← hS]; decide)
    have qrun := bne_lit (S := S) (l := [114, 117, 110]) (by rw [← hS]; decide)
    have qtick := bne_lit (S := S) (l := [116, 105, 99, 107]) (by rw [← hS]; decide)
    have qkeep := bne_lit (S := S) (l := [107, 101, 101, 112]) (by rw [← hS]; decide)
    have qleave := bne_lit (S := S) (l := [108, 101, 97, 118, 101]) (by rw [← hS]; decide)
    have qtold := bne_lit (S := S) (l := [116, 111, 108, 100]) (by rw [← hS]; decide)
    have qnames := bne_lit (S := S) (l := [110, 97, 109, 101, 115]) (by rw [← hS]; decide)
    have qleases := bne_lit (S := S) (l := [108, 101, 97, 115, 101, 115]) (by rw [← hS]; decide)
    have qstreams := bne_lit (S := S) (l := [115, 116, 114, 101, 97, 109, 115]) (by rw [← hS]; decide)
    have qkept := bne_lit (S := S) (l := [107, 101, 112, 116]) (by rw [← hS]; decide)
    have qsave := bne_lit (S := S) (l := [115, 97, 118, 101]) (by rw [← hS]; decide)
    have qload := bne_lit (S := S) (l := [108, 111, 97, 100]) (by rw [← hS]; decide)
    clear hS
    go_enter Tryd.func22, Tryd.ntmps22
    go_wp2
    go_ret2
    exact ⟨by rw [HV.out]; rfl, rfl⟩
  · simp only at hS
    have HV := Lib.hid (show shpV S.data.toList = ([110, 35], true) by rw [← hS]; rfl)
    have qworld := bne_lit (S := S) (l := [119, 111, 114, 108, 100]) (by rw [← hS]; decide)
    have qgrant := bne_lit (S := S) (l := [103, 114, 97, 110, 116]) (by rw [← hS]; decide)
    have qrevoke := bne_lit (S := S) (l := [114, 101, 118, 111, 107, 101]) (by rw [← hS]; decide)
    have qjoin := bne_lit (S := S) (l := [106, 111, 105, 110]) (by rw [← hS]; decide)
    have qcut := bne_lit (S := S) (l := [99, 117, 116]) (by rw [← hS]; decide)
    have qforward := bne_lit (S := S) (l := [102, 111, 114, 119, 97, 114, 100]) (by rw [← hS]; decide)
    have qcancel := bne_lit (S := S) (l := [99, 97, 110, 99, 101, 108]) (by rw [← hS]; decide)
    have qbeat := bne_lit (S := S) (l := [98, 101, 97, 116]) (by rw [← hS]; decide)
    have qdial := bne_lit (S := S) (l := [100, 105, 97, 108]) (by rw [← hS]; decide)
    have qsay := bne_lit (S := S) (l := [115, 97, 121]) (by rw [← hS]; decide)
    have qhear := bne_lit (S := S) (l := [104, 101, 97, 114]) (by rw [← hS]; decide)
    have qend := beq_lit hS.symm
    have qcarry := bne_lit (S := S) (l := [99, 97, 114, 114, 121]) (by rw [← hS]; decide)
    have qrun := bne_lit (S := S) (l := [114, 117, 110]) (by rw [← hS]; decide)
    have qtick := bne_lit (S := S) (l := [116, 105, 99, 107]) (by rw [← hS]; decide)
    have qkeep := bne_lit (S := S) (l := [107, 101, 101, 112]) (by rw [← hS]; decide)
    have qleave := bne_lit (S := S) (l := [108, 101, 97, 118, 101]) (by rw [← hS]; decide)
    have qtold := bne_lit (S := S) (l := [116, 111, 108, 100]) (by rw [← hS]; decide)
    have qnames := bne_lit (S := S) (l := [110, 97, 109, 101, 115]) (by rw [← hS]; decide)
    have qleases := bne_lit (S := S) (l := [108, 101, 97, 115, 101, 115]) (by rw [← hS]; decide)
    have qstreams := bne_lit (S := S) (l := [115, 116, 114, 101, 97, 109, 115]) (by rw [← hS]; decide)
    have qkept := bne_lit (S := S) (l := [107, 101, 112, 116]) (by rw [← hS]; decide)
    have qsave := bne_lit (S := S) (l := [115, 97, 118, 101]) (by rw [← hS]; decide)
    have qload := bne_lit (S := S) (l := [108, 111, 97, 100]) (by rw [← hS]; decide)
    clear hS
    go_enter Tryd.func22, Tryd.ntmps22
    go_wp2
    go_ret2
    exact ⟨by rw [HV.out]; rfl, rfl⟩
  · simp only at hS
    have HV := Lib.hid (show shpV S.data.toList = ([110, 35, 35], true) by rw [← hS]; rfl)
    have qworld := bne_lit (S := S) (l := [119, 111, 114, 108, 100]) (by rw [← hS]; decide)
    have qgrant := bne_lit (S := S) (l := [103, 114, 97, 110, 116]) (by rw [← hS]; decide)
    have qrevoke := bne_lit (S := S) (l := [114, 101, 118, 111, 107, 101]) (by rw [← hS]; decide)
    have qjoin := bne_lit (S := S) (l := [106, 111, 105, 110]) (by rw [← hS]; decide)
    have qcut := bne_lit (S := S) (l := [99, 117, 116]) (by rw [← hS]; decide)
    have qforward := bne_lit (S := S) (l := [102, 111, 114, 119, 97, 114, 100]) (by rw [← hS]; decide)
    have qcancel := bne_lit (S := S) (l := [99, 97, 110, 99, 101, 108]) (by rw [← hS]; decide)
    have qbeat := bne_lit (S := S) (l := [98, 101, 97, 116]) (by rw [← hS]; decide)
    have qdial := bne_lit (S := S) (l := [100, 105, 97, 108]) (by rw [← hS]; decide)
    have qsay := bne_lit (S := S) (l := [115, 97, 121]) (by rw [← hS]; decide)
    have qhear := bne_lit (S := S) (l := [104, 101, 97, 114]) (by rw [← hS]; decide)
    have qend := bne_lit (S := S) (l := [101, 110, 100]) (by rw [← hS]; decide)
    have qcarry := beq_lit hS.symm
    have qrun := bne_lit (S := S) (l := [114, 117, 110]) (by rw [← hS]; decide)
    have qtick := bne_lit (S := S) (l := [116, 105, 99, 107]) (by rw [← hS]; decide)
    have qkeep := bne_lit (S := S) (l := [107, 101, 101, 112]) (by rw [← hS]; decide)
    have qleave := bne_lit (S := S) (l := [108, 101, 97, 118, 101]) (by rw [← hS]; decide)
    have qtold := bne_lit (S := S) (l := [116, 111, 108, 100]) (by rw [← hS]; decide)
    have qnames := bne_lit (S := S) (l := [110, 97, 109, 101, 115]) (by rw [← hS]; decide)
    have qleases := bne_lit (S := S) (l := [108, 101, 97, 115, 101, 115]) (by rw [← hS]; decide)
    have qstreams := bne_lit (S := S) (l := [115, 116, 114, 101, 97, 109, 115]) (by rw [← hS]; decide)
    have qkept := bne_lit (S := S) (l := [107, 101, 112, 116]) (by rw [← hS]; decide)
    have qsave := bne_lit (S := S) (l := [115, 97, 118, 101]) (by rw [← hS]; decide)
    have qload := bne_lit (S := S) (l := [108, 111, 97, 100]) (by rw [← hS]; decide)
    clear hS
    go_enter Tryd.func22, Tryd.ntmps22
    go_wp2
    go_ret2
    exact ⟨by rw [HV.out]; rfl, rfl⟩
  · simp only at hS
    have HV := Lib.hid (show shpV S.data.toList = ([35], true) by rw [← hS]; rfl)
    have qworld := bne_lit (S := S) (l := [119, 111, 114, 108, 100]) (by rw [← hS]; decide)
    have qgrant := bne_lit (S := S) (l := [103, 114, 97, 110, 116]) (by rw [← hS]; decide)
    have qrevoke := bne_lit (S := S) (l := [114, 101, 118, 111, 107, 101]) (by rw [← hS]; decide)
    have qjoin := bne_lit (S := S) (l := [106, 111, 105, 110]) (by rw [← hS]; decide)
    have qcut := bne_lit (S := S) (l := [99, 117, 116]) (by rw [← hS]; decide)
    have qforward := bne_lit (S := S) (l := [102, 111, 114, 119, 97, 114, 100]) (by rw [← hS]; decide)
    have qcancel := bne_lit (S := S) (l := [99, 97, 110, 99, 101, 108]) (by rw [← hS]; decide)
    have qbeat := bne_lit (S := S) (l := [98, 101, 97, 116]) (by rw [← hS]; decide)
    have qdial := bne_lit (S := S) (l := [100, 105, 97, 108]) (by rw [← hS]; decide)
    have qsay := bne_lit (S := S) (l := [115, 97, 121]) (by rw [← hS]; decide)
    have qhear := bne_lit (S := S) (l := [104, 101, 97, 114]) (by rw [← hS]; decide)
    have qend := bne_lit (S := S) (l := [101, 110, 100]) (by rw [← hS]; decide)
    have qcarry := bne_lit (S := S) (l := [99, 97, 114, 114, 121]) (by rw [← hS]; decide)
    have qrun := beq_lit hS.symm
    have qtick := bne_lit (S := S) (l := [116, 105, 99, 107]) (by rw [← hS]; decide)
    have qkeep := bne_lit (S := S) (l := [107, 101, 101, 112]) (by rw [← hS]; decide)
    have qleave := bne_lit (S := S) (l := [108, 101, 97, 118, 101]) (by rw [← hS]; decide)
    have qtold := bne_lit (S := S) (l := [116, 111, 108, 100]) (by rw [← hS]; decide)
    have qnames := bne_lit (S := S) (l := [110, 97, 109, 101, 115]) (by rw [← hS]; decide)
    have qleases := bne_lit (S := S) (l := [108, 101, 97, 115, 101, 115]) (by rw [← hS]; decide)
    have qstreams := bne_lit (S := S) (l := [115, 116, 114, 101, 97, 109, 115]) (by rw [← hS]; decide)
    have qkept := bne_lit (S := S) (l := [107, 101, 112, 116]) (by rw [← hS]; decide)
    have qsave := bne_lit (S := S) (l := [115, 97, 118, 101]) (by rw [← hS]; decide)
    have qload := bne_lit (S := S) (l := [108, 111, 97, 100]) (by rw [← hS]; decide)
    clear hS
    go_enter Tryd.func22, Tryd.ntmps22
    go_wp2
    go_ret2
    exact ⟨by rw [HV.out]; rfl, rfl⟩
  · simp only at hS
    have HV := Lib.hid (show shpV S.data.toList = ([35], true) by rw [← hS]; rfl)
    have qworld := bne_lit (S := S) (l := [119, 111, 114, 108, 100]) (by rw [← hS]; decide)
    have qgrant := bne_lit (S := S) (l := [103, 114, 97, 110, 116]) (by rw [← hS]; decide)
    have qrevoke := bne_lit (S := S) (l := [114, 101, 118, 111, 107, 101]) (by rw [← hS]; decide)
    have qjoin := bne_lit (S := S) (l := [106, 111, 105, 110]) (by rw [← hS]; decide)
    have qcut := bne_lit (S := S) (l := [99, 117, 116]) (by rw [← hS]; decide)
    have qforward := bne_lit (S := S) (l := [102, 111, 114, 119, 97, 114, 100]) (by rw [← hS]; decide)
    have qcancel := bne_lit (S := S) (l := [99, 97, 110, 99, 101, 108]) (by rw [← hS]; decide)
    have qbeat := bne_lit (S := S) (l := [98, 101, 97, 116]) (by rw [← hS]; decide)
    have qdial := bne_lit (S := S) (l := [100, 105, 97, 108]) (by rw [← hS]; decide)
    have qsay := bne_lit (S := S) (l := [115, 97, 121]) (by rw [← hS]; decide)
    have qhear := bne_lit (S := S) (l := [104, 101, 97, 114]) (by rw [← hS]; decide)
    have qend := bne_lit (S := S) (l := [101, 110, 100]) (by rw [← hS]; decide)
    have qcarry := bne_lit (S := S) (l := [99, 97, 114, 114, 121]) (by rw [← hS]; decide)
    have qrun := bne_lit (S := S) (l := [114, 117, 110]) (by rw [← hS]; decide)
    have qtick := beq_lit hS.symm
    have qkeep := bne_lit (S := S) (l := [107, 101, 101, 112]) (by rw [← hS]; decide)
    have qleave := bne_lit (S := S) (l := [108, 101, 97, 118, 101]) (by rw [← hS]; decide)
    have qtold := bne_lit (S := S) (l := [116, 111, 108, 100]) (by rw [← hS]; decide)
    have qnames := bne_lit (S := S) (l := [110, 97, 109, 101, 115]) (by rw [← hS]; decide)
    have qleases := bne_lit (S := S) (l := [108, 101, 97, 115, 101, 115]) (by rw [← hS]; decide)
    have qstreams := bne_lit (S := S) (l := [115, 116, 114, 101, 97, 109, 115]) (by rw [← hS]; decide)
    have qkept := bne_lit (S := S) (l := [107, 101, 112, 116]) (by rw [← hS]; decide)
    have qsave := bne_lit (S := S) (l := [115, 97, 118, 101]) (by rw [← hS]; decide)
    have qload := bne_lit (S := S) (l := [108, 111, 97, 100]) (by rw [← hS]; decide)
    clear hS
    go_enter Tryd.func22, Tryd.ntmps22
    go_wp2
    go_ret2
    exact ⟨by rw [HV.out]; rfl, rfl⟩
  · simp only at hS
    have HV := Lib.hid (show shpV S.data.toList = ([110, 110, 35, 35, 35, 42], true) by rw [← hS]; rfl)
    have qworld := bne_lit (S := S) (l := [119, 111, 114, 108, 100]) (by rw [← hS]; decide)
    have qgrant := bne_lit (S := S) (l := [103, 114, 97, 110, 116]) (by rw [← hS]; decide)
    have qrevoke := bne_lit (S := S) (l := [114, 101, 118, 111, 107, 101]) (by rw [← hS]; decide)
    have qjoin := bne_lit (S := S) (l := [106, 111, 105, 110]) (by rw [← hS]; decide)
    have qcut := bne_lit (S := S) (l := [99, 117, 116]) (by rw [← hS]; decide)
    have qforward := bne_lit (S := S) (l := [102, 111, 114, 119, 97, 114, 100]) (by rw [← hS]; decide)
    have qcancel := bne_lit (S := S) (l := [99, 97, 110, 99, 101, 108]) (by rw [← hS]; decide)
    have qbeat := bne_lit (S := S) (l := [98, 101, 97, 116]) (by rw [← hS]; decide)
    have qdial := bne_lit (S := S) (l := [100, 105, 97, 108]) (by rw [← hS]; decide)
    have qsay := bne_lit (S := S) (l := [115, 97, 121]) (by rw [← hS]; decide)
    have qhear := bne_lit (S := S) (l := [104, 101, 97, 114]) (by rw [← hS]; decide)
    have qend := bne_lit (S := S) (l := [101, 110, 100]) (by rw [← hS]; decide)
    have qcarry := bne_lit (S := S) (l := [99, 97, 114, 114, 121]) (by rw [← hS]; decide)
    have qrun := bne_lit (S := S) (l := [114, 117, 110]) (by rw [← hS]; decide)
    have qtick := bne_lit (S := S) (l := [116, 105, 99, 107]) (by rw [← hS]; decide)
    have qkeep := beq_lit hS.symm
    have qleave := bne_lit (S := S) (l := [108, 101, 97, 118, 101]) (by rw [← hS]; decide)
    have qtold := bne_lit (S := S) (l := [116, 111, 108, 100]) (by rw [← hS]; decide)
    have qnames := bne_lit (S := S) (l := [110, 97, 109, 101, 115]) (by rw [← hS]; decide)
    have qleases := bne_lit (S := S) (l := [108, 101, 97, 115, 101, 115]) (by rw [← hS]; decide)
    have qstreams := bne_lit (S := S) (l := [115, 116, 114, 101, 97, 109, 115]) (by rw [← hS]; decide)
    have qkept := bne_lit (S := S) (l := [107, 101, 112, 116]) (by rw [← hS]; decide)
    have qsave := bne_lit (S := S) (l := [115, 97, 118, 101]) (by rw [← hS]; decide)
    have qload := bne_lit (S := S) (l := [108, 111, 97, 100]) (by rw [← hS]; decide)
    clear hS
    go_enter Tryd.func22, Tryd.ntmps22
    go_wp2
    go_ret2
    exact ⟨by rw [HV.out]; rfl, rfl⟩
  · simp only at hS
    have HV := Lib.hid (show shpV S.data.toList = ([110], true) by rw [← hS]; rfl)
    have qworld := bne_lit (S := S) (l := [119, 111, 114, 108, 100]) (by rw [← hS]; decide)
    have qgrant := bne_lit (S := S) (l := [103, 114, 97, 110, 116]) (by rw [← hS]; decide)
    have qrevoke := bne_lit (S := S) (l := [114, 101, 118, 111, 107, 101]) (by rw [← hS]; decide)
    have qjoin := bne_lit (S := S) (l := [106, 111, 105, 110]) (by rw [← hS]; decide)
    have qcut := bne_lit (S := S) (l := [99, 117, 116]) (by rw [← hS]; decide)
    have qforward := bne_lit (S := S) (l := [102, 111, 114, 119, 97, 114, 100]) (by rw [← hS]; decide)
    have qcancel := bne_lit (S := S) (l := [99, 97, 110, 99, 101, 108]) (by rw [← hS]; decide)
    have qbeat := bne_lit (S := S) (l := [98, 101, 97, 116]) (by rw [← hS]; decide)
    have qdial := bne_lit (S := S) (l := [100, 105, 97, 108]) (by rw [← hS]; decide)
    have qsay := bne_lit (S := S) (l := [115, 97, 121]) (by rw [← hS]; decide)
    have qhear := bne_lit (S := S) (l := [104, 101, 97, 114]) (by rw [← hS]; decide)
    have qend := bne_lit (S := S) (l := [101, 110, 100]) (by rw [← hS]; decide)
    have qcarry := bne_lit (S := S) (l := [99, 97, 114, 114, 121]) (by rw [← hS]; decide)
    have qrun := bne_lit (S := S) (l := [114, 117, 110]) (by rw [← hS]; decide)
    have qtick := bne_lit (S := S) (l := [116, 105, 99, 107]) (by rw [← hS]; decide)
    have qkeep := bne_lit (S := S) (l := [107, 101, 101, 112]) (by rw [← hS]; decide)
    have qleave := beq_lit hS.symm
    have qtold := bne_lit (S := S) (l := [116, 111, 108, 100]) (by rw [← hS]; decide)
    have qnames := bne_lit (S := S) (l := [110, 97, 109, 101, 115]) (by rw [← hS]; decide)
    have qleases := bne_lit (S := S) (l := [108, 101, 97, 115, 101, 115]) (by rw [← hS]; decide)
    have qstreams := bne_lit (S := S) (l := [115, 116, 114, 101, 97, 109, 115]) (by rw [← hS]; decide)
    have qkept := bne_lit (S := S) (l := [107, 101, 112, 116]) (by rw [← hS]; decide)
    have qsave := bne_lit (S := S) (l := [115, 97, 118, 101]) (by rw [← hS]; decide)
    have qload := bne_lit (S := S) (l := [108, 111, 97, 100]) (by rw [← hS]; decide)
    clear hS
    go_enter Tryd.func22, Tryd.ntmps22
    go_wp2
    go_ret2
    exact ⟨by rw [HV.out]; rfl, rfl⟩
  · simp only at hS
    have HV := Lib.hid (show shpV S.data.toList = ([110], true) by rw [← hS]; rfl)
    have qworld := bne_lit (S := S) (l := [119, 111, 114, 108, 100]) (by rw [← hS]; decide)
    have qgrant := bne_lit (S := S) (l := [103, 114, 97, 110, 116]) (by rw [← hS]; decide)
    have qrevoke := bne_lit (S := S) (l := [114, 101, 118, 111, 107, 101]) (by rw [← hS]; decide)
    have qjoin := bne_lit (S := S) (l := [106, 111, 105, 110]) (by rw [← hS]; decide)
    have qcut := bne_lit (S := S) (l := [99, 117, 116]) (by rw [← hS]; decide)
    have qforward := bne_lit (S := S) (l := [102, 111, 114, 119, 97, 114, 100]) (by rw [← hS]; decide)
    have qcancel := bne_lit (S := S) (l := [99, 97, 110, 99, 101, 108]) (by rw [← hS]; decide)
    have qbeat := bne_lit (S := S) (l := [98, 101, 97, 116]) (by rw [← hS]; decide)
    have qdial := bne_lit (S := S) (l := [100, 105, 97, 108]) (by rw [← hS]; decide)
    have qsay := bne_lit (S := S) (l := [115, 97, 121]) (by rw [← hS]; decide)
    have qhear := bne_lit (S := S) (l := [104, 101, 97, 114]) (by rw [← hS]; decide)
    have qend := bne_lit (S := S) (l := [101, 110, 100]) (by rw [← hS]; decide)
    have qcarry := bne_lit (S := S) (l := [99, 97, 114, 114, 121]) (by rw [← hS]; decide)
    have qrun := bne_lit (S := S) (l := [114, 117, 110]) (by rw [← hS]; decide)
    have qtick := bne_lit (S := S) (l := [116, 105, 99, 107]) (by rw [← hS]; decide)
    have qkeep := bne_lit (S := S) (l := [107, 101, 101, 112]) (by rw [← hS]; decide)
    have qleave := bne_lit (S := S) (l := [108, 101, 97, 118, 101]) (by rw [← hS]; decide)
    have qtold := beq_lit hS.symm
    have qnames := bne_lit (S := S) (l := [110, 97, 109, 101, 115]) (by rw [← hS]; decide)
    have qleases := bne_lit (S := S) (l := [108, 101, 97, 115, 101, 115]) (by rw [← hS]; decide)
    have qstreams := bne_lit (S := S) (l := [115, 116, 114, 101, 97, 109, 115]) (by rw [← hS]; decide)
    have qkept := bne_lit (S := S) (l := [107, 101, 112, 116]) (by rw [← hS]; decide)
    have qsave := bne_lit (S := S) (l := [115, 97, 118, 101]) (by rw [← hS]; decide)
    have qload := bne_lit (S := S) (l := [108, 111, 97, 100]) (by rw [← hS]; decide)
    clear hS
    go_enter Tryd.func22, Tryd.ntmps22
    go_wp2
    go_ret2
    exact ⟨by rw [HV.out]; rfl, rfl⟩
  · simp only at hS
    have HV := Lib.hid (show shpV S.data.toList = ([], true) by rw [← hS]; rfl)
    have qworld := bne_lit (S := S) (l := [119, 111, 114, 108, 100]) (by rw [← hS]; decide)
    have qgrant := bne_lit (S := S) (l := [103, 114, 97, 110, 116]) (by rw [← hS]; decide)
    have qrevoke := bne_lit (S := S) (l := [114, 101, 118, 111, 107, 101]) (by rw [← hS]; decide)
    have qjoin := bne_lit (S := S) (l := [106, 111, 105, 110]) (by rw [← hS]; decide)
    have qcut := bne_lit (S := S) (l := [99, 117, 116]) (by rw [← hS]; decide)
    have qforward := bne_lit (S := S) (l := [102, 111, 114, 119, 97, 114, 100]) (by rw [← hS]; decide)
    have qcancel := bne_lit (S := S) (l := [99, 97, 110, 99, 101, 108]) (by rw [← hS]; decide)
    have qbeat := bne_lit (S := S) (l := [98, 101, 97, 116]) (by rw [← hS]; decide)
    have qdial := bne_lit (S := S) (l := [100, 105, 97, 108]) (by rw [← hS]; decide)
    have qsay := bne_lit (S := S) (l := [115, 97, 121]) (by rw [← hS]; decide)
    have qhear := bne_lit (S := S) (l := [104, 101, 97, 114]) (by rw [← hS]; decide)
    have qend := bne_lit (S := S) (l := [101, 110, 100]) (by rw [← hS]; decide)
    have qcarry := bne_lit (S := S) (l := [99, 97, 114, 114, 121]) (by rw [← hS]; decide)
    have qrun := bne_lit (S := S) (l := [114, 117, 110]) (by rw [← hS]; decide)
    have qtick := bne_lit (S := S) (l := [116, 105, 99, 107]) (by rw [← hS]; decide)
    have qkeep := bne_lit (S := S) (l := [107, 101, 101, 112]) (by rw [← hS]; decide)
    have qleave := bne_lit (S := S) (l := [108, 101, 97, 118, 101]) (by rw [← hS]; decide)
    have qtold := bne_lit (S := S) (l := [116, 111, 108, 100]) (by rw [← hS]; decide)
    have qnames := beq_lit hS.symm
    have qleases := bne_lit (S := S) (l := [108, 101, 97, 115, 101, 115]) (by rw [← hS]; decide)
    have qstreams := bne_lit (S := S) (l := [115, 116, 114, 101, 97, 109, 115]) (by rw [← hS]; decide)
    have qkept := bne_lit (S := S) (l := [107, 101, 112, 116]) (by rw [← hS]; decide)
    have qsave := bne_lit (S := S) (l := [115, 97, 118, 101]) (by rw [← hS]; decide)
    have qload := bne_lit (S := S) (l := [108, 111, 97, 100]) (by rw [← hS]; decide)
    clear hS
    go_enter Tryd.func22, Tryd.ntmps22
    go_wp2
    go_ret2
    exact ⟨by rw [HV.out]; rfl, rfl⟩
  · simp only at hS
    have HV := Lib.hid (show shpV S.data.toList = ([], true) by rw [← hS]; rfl)
    have qworld := bne_lit (S := S) (l := [119, 111, 114, 108, 100]) (by rw [← hS]; decide)
    have qgrant := bne_lit (S := S) (l := [103, 114, 97, 110, 116]) (by rw [← hS]; decide)
    have qrevoke := bne_lit (S := S) (l := [114, 101, 118, 111, 107, 101]) (by rw [← hS]; decide)
    have qjoin := bne_lit (S := S) (l := [106, 111, 105, 110]) (by rw [← hS]; decide)
    have qcut := bne_lit (S := S) (l := [99, 117, 116]) (by rw [← hS]; decide)
    have qforward := bne_lit (S := S) (l := [102, 111, 114, 119, 97, 114, 100]) (by rw [← hS]; decide)
    have qcancel := bne_lit (S := S) (l := [99, 97, 110, 99, 101, 108]) (by rw [← hS]; decide)
    have qbeat := bne_lit (S := S) (l := [98, 101, 97, 116]) (by rw [← hS]; decide)
    have qdial := bne_lit (S := S) (l := [100, 105, 97, 108]) (by rw [← hS]; decide)
    have qsay := bne_lit (S := S) (l := [115, 97, 121]) (by rw [← hS]; decide)
    have qhear := bne_lit (S := S) (l := [104, 101, 97, 114]) (by rw [← hS]; decide)
    have qend := bne_lit (S := S) (l := [101, 110, 100]) (by rw [← hS]; decide)
    have qcarry := bne_lit (S := S) (l := [99, 97, 114, 114, 121]) (by rw [← hS]; decide)
    have qrun := bne_lit (S := S) (l := [114, 117, 110]) (by rw [← hS]; decide)
    have qtick := bne_lit (S := S) (l := [116, 105, 99, 107]) (by rw [← hS]; decide)
    have qkeep := bne_lit (S := S) (l := [107, 101, 101, 112]) (by rw [← hS]; decide)
    have qleave := bne_lit (S := S) (l := [108, 101, 97, 118, 101]) (by rw [← hS]; decide)
    have qtold := bne_lit (S := S) (l := [116, 111, 108, 100]) (by rw [← hS]; decide)
    have qnames := bne_lit (S := S) (l := [110, 97, 109, 101, 115]) (by rw [← hS]; decide)
    have qleases := beq_lit hS.symm
    have qstreams := bne_lit (S := S) (l := [115, 116, 114, 101, 97, 109, 115]) (by rw [← hS]; decide)
    have qkept := bne_lit (S := S) (l := [107, 101, 112, 116]) (by rw [← hS]; decide)
    have qsave := bne_lit (S := S) (l := [115, 97, 118, 101]) (by rw [← hS]; decide)
    have qload := bne_lit (S := S) (l := [108, 111, 97, 100]) (by rw [← hS]; decide)
    clear hS
    go_enter Tryd.func22, Tryd.ntmps22
    go_wp2
    go_ret2
    exact ⟨by rw [HV.out]; rfl, rfl⟩
  · simp only at hS
    have HV := Lib.hid (show shpV S.data.toList = ([], true) by rw [← hS]; rfl)
    have qworld := bne_lit (S := S) (l := [119, 111, 114, 108, 100]) (by rw [← hS]; decide)
    have qgrant := bne_lit (S := S) (l := [103, 114, 97, 110, 116]) (by rw [← hS]; decide)
    have qrevoke := bne_lit (S := S) (l := [114, 101, 118, 111, 107, 101]) (by rw [← hS]; decide)
    have qjoin := bne_lit (S := S) (l := [106, 111, 105, 110]) (by rw [← hS]; decide)
    have qcut := bne_lit (S := S) (l := [99, 117, 116]) (by rw [← hS]; decide)
    have qforward := bne_lit (S := S) (l := [102, 111, 114, 119, 97, 114, 100]) (by rw [← hS]; decide)
    have qcancel := bne_lit (S := S) (l := [99, 97, 110, 99, 101, 108]) (by rw [← hS]; decide)
    have qbeat := bne_lit (S := S) (l := [98, 101, 97, 116]) (by rw [← hS]; decide)
    have qdial := bne_lit (S := S) (l := [100, 105, 97, 108]) (by rw [← hS]; decide)
    have qsay := bne_lit (S := S) (l := [115, 97, 121]) (by rw [← hS]; decide)
    have qhear := bne_lit (S := S) (l := [104, 101, 97, 114]) (by rw [← hS]; decide)
    have qend := bne_lit (S := S) (l := [101, 110, 100]) (by rw [← hS]; decide)
    have qcarry := bne_lit (S := S) (l := [99, 97, 114, 114, 121]) (by rw [← hS]; decide)
    have qrun := bne_lit (S := S) (l := [114, 117, 110]) (by rw [← hS]; decide)
    have qtick := bne_lit (S := S) (l := [116, 105, 99, 107]) (by rw [← hS]; decide)
    have qkeep := bne_lit (S := S) (l := [107, 101, 101, 112]) (by rw [← hS]; decide)
    have qleave := bne_lit (S := S) (l := [108, 101, 97, 118, 101]) (by rw [← hS]; decide)
    have qtold := bne_lit (S := S) (l := [116, 111, 108, 100]) (by rw [← hS]; decide)
    have qnames := bne_lit (S := S) (l := [110, 97, 109, 101, 115]) (by rw [← hS]; decide)
    have qleases := bne_lit (S := S) (l := [108, 101, 97, 115, 101, 115]) (by rw [← hS]; decide)
    have qstreams := beq_lit hS.symm
    have qkept := bne_lit (S := S) (l := [107, 101, 112, 116]) (by rw [← hS]; decide)
    have qsave := bne_lit (S := S) (l := [115, 97, 118, 101]) (by rw [← hS]; decide)
    have qload := bne_lit (S := S) (l := [108, 111, 97, 100]) (by rw [← hS]; decide)
    clear hS
    go_enter Tryd.func22, Tryd.ntmps22
    go_wp2
    go_ret2
    exact ⟨by rw [HV.out]; rfl, rfl⟩
  · simp only at hS
    have HV := Lib.hid (show shpV S.data.toList = ([], true) by rw [← hS]; rfl)
    have qworld := bne_lit (S := S) (l := [119, 111, 114, 108, 100]) (by rw [← hS]; decide)
    have qgrant := bne_lit (S := S) (l := [103, 114, 97, 110, 116]) (by rw [← hS]; decide)
    have qrevoke := bne_lit (S := S) (l := [114, 101, 118, 111, 107, 101]) (by rw [← hS]; decide)
    have qjoin := bne_lit (S := S) (l := [106, 111, 105, 110]) (by rw [← hS]; decide)
    have qcut := bne_lit (S := S) (l := [99, 117, 116]) (by rw [← hS]; decide)
    have qforward := bne_lit (S := S) (l := [102, 111, 114, 119, 97, 114, 100]) (by rw [← hS]; decide)
    have qcancel := bne_lit (S := S) (l := [99, 97, 110, 99, 101, 108]) (by rw [← hS]; decide)
    have qbeat := bne_lit (S := S) (l := [98, 101, 97, 116]) (by rw [← hS]; decide)
    have qdial := bne_lit (S := S) (l := [100, 105, 97, 108]) (by rw [← hS]; decide)
    have qsay := bne_lit (S := S) (l := [115, 97, 121]) (by rw [← hS]; decide)
    have qhear := bne_lit (S := S) (l := [104, 101, 97, 114]) (by rw [← hS]; decide)
    have qend := bne_lit (S := S) (l := [101, 110, 100]) (by rw [← hS]; decide)
    have qcarry := bne_lit (S := S) (l := [99, 97, 114, 114, 121]) (by rw [← hS]; decide)
    have qrun := bne_lit (S := S) (l := [114, 117, 110]) (by rw [← hS]; decide)
    have qtick := bne_lit (S := S) (l := [116, 105, 99, 107]) (by rw [← hS]; decide)
    have qkeep := bne_lit (S := S) (l := [107, 101, 101, 112]) (by rw [← hS]; decide)
    have qleave := bne_lit (S := S) (l := [108, 101, 97, 118, 101]) (by rw [← hS]; decide)
    have qtold := bne_lit (S := S) (l := [116, 111, 108, 100]) (by rw [← hS]; decide)
    have qnames := bne_lit (S := S) (l := [110, 97, 109, 101, 115]) (by rw [← hS]; decide)
    have qleases := bne_lit (S := S) (l := [108, 101, 97, 115, 101, 115]) (by rw [← hS]; decide)
    have qstreams := bne_lit (S := S) (l := [115, 116, 114, 101, 97, 109, 115]) (by rw [← hS]; decide)
    have qkept := beq_lit hS.symm
    have qsave := bne_lit (S := S) (l := [115, 97, 118, 101]) (by rw [← hS]; decide)
    have qload := bne_lit (S := S) (l := [108, 111, 97, 100]) (by rw [← hS]; decide)
    clear hS
    go_enter Tryd.func22, Tryd.ntmps22
    go_wp2
    go_ret2
    exact ⟨by rw [HV.out]; rfl, rfl⟩
  · simp only at hS
    have HV := Lib.hid (show shpV S.data.toList = ([110, 35], true) by rw [← hS]; rfl)
    have qworld := bne_lit (S := S) (l := [119, 111, 114, 108, 100]) (by rw [← hS]; decide)
    have qgrant := bne_lit (S := S) (l := [103, 114, 97, 110, 116]) (by rw [← hS]; decide)
    have qrevoke := bne_lit (S := S) (l := [114, 101, 118, 111, 107, 101]) (by rw [← hS]; decide)
    have qjoin := bne_lit (S := S) (l := [106, 111, 105, 110]) (by rw [← hS]; decide)
    have qcut := bne_lit (S := S) (l := [99, 117, 116]) (by rw [← hS]; decide)
    have qforward := bne_lit (S := S) (l := [102, 111, 114, 119, 97, 114, 100]) (by rw [← hS]; decide)
    have qcancel := bne_lit (S := S) (l := [99, 97, 110, 99, 101, 108]) (by rw [← hS]; decide)
    have qbeat := bne_lit (S := S) (l := [98, 101, 97, 116]) (by rw [← hS]; decide)
    have qdial := bne_lit (S := S) (l := [100, 105, 97, 108]) (by rw [← hS]; decide)
    have qsay := bne_lit (S := S) (l := [115, 97, 121]) (by rw [← hS]; decide)
    have qhear := bne_lit (S := S) (l := [104, 101, 97, 114]) (by rw [← hS]; decide)
    have qend := bne_lit (S := S) (l := [101, 110, 100]) (by rw [← hS]; decide)
    have qcarry := bne_lit (S := S) (l := [99, 97, 114, 114, 121]) (by rw [← hS]; decide)
    have qrun := bne_lit (S := S) (l := [114, 117, 110]) (by rw [← hS]; decide)
    have qtick := bne_lit (S := S) (l := [116, 105, 99, 107]) (by rw [← hS]; decide)
    have qkeep := bne_lit (S := S) (l := [107, 101, 101, 112]) (by rw [← hS]; decide)
    have qleave := bne_lit (S := S) (l := [108, 101, 97, 118, 101]) (by rw [← hS]; decide)
    have qtold := bne_lit (S := S) (l := [116, 111, 108, 100]) (by rw [← hS]; decide)
    have qnames := bne_lit (S := S) (l := [110, 97, 109, 101, 115]) (by rw [← hS]; decide)
    have qleases := bne_lit (S := S) (l := [108, 101, 97, 115, 101, 115]) (by rw [← hS]; decide)
    have qstreams := bne_lit (S := S) (l := [115, 116, 114, 101, 97, 109, 115]) (by rw [← hS]; decide)
    have qkept := bne_lit (S := S) (l := [107, 101, 112, 116]) (by rw [← hS]; decide)
    have qsave := beq_lit hS.symm
    have qload := bne_lit (S := S) (l := [108, 111, 97, 100]) (by rw [← hS]; decide)
    clear hS
    go_enter Tryd.func22, Tryd.ntmps22
    go_wp2
    go_ret2
    exact ⟨by rw [HV.out]; rfl, rfl⟩
  · simp only at hS
    have HV := Lib.hid (show shpV S.data.toList = ([110, 35, 116], true) by rw [← hS]; rfl)
    have qworld := bne_lit (S := S) (l := [119, 111, 114, 108, 100]) (by rw [← hS]; decide)
    have qgrant := bne_lit (S := S) (l := [103, 114, 97, 110, 116]) (by rw [← hS]; decide)
    have qrevoke := bne_lit (S := S) (l := [114, 101, 118, 111, 107, 101]) (by rw [← hS]; decide)
    have qjoin := bne_lit (S := S) (l := [106, 111, 105, 110]) (by rw [← hS]; decide)
    have qcut := bne_lit (S := S) (l := [99, 117, 116]) (by rw [← hS]; decide)
    have qforward := bne_lit (S := S) (l := [102, 111, 114, 119, 97, 114, 100]) (by rw [← hS]; decide)
    have qcancel := bne_lit (S := S) (l := [99, 97, 110, 99, 101, 108]) (by rw [← hS]; decide)
    have qbeat := bne_lit (S := S) (l := [98, 101, 97, 116]) (by rw [← hS]; decide)
    have qdial := bne_lit (S := S) (l := [100, 105, 97, 108]) (by rw [← hS]; decide)
    have qsay := bne_lit (S := S) (l := [115, 97, 121]) (by rw [← hS]; decide)
    have qhear := bne_lit (S := S) (l := [104, 101, 97, 114]) (by rw [← hS]; decide)
    have qend := bne_lit (S := S) (l := [101, 110, 100]) (by rw [← hS]; decide)
    have qcarry := bne_lit (S := S) (l := [99, 97, 114, 114, 121]) (by rw [← hS]; decide)
    have qrun := bne_lit (S := S) (l := [114, 117, 110]) (by rw [← hS]; decide)
    have qtick := bne_lit (S := S) (l := [116, 105, 99, 107]) (by rw [← hS]; decide)
    have qkeep := bne_lit (S := S) (l := [107, 101, 101, 112]) (by rw [← hS]; decide)
    have qleave := bne_lit (S := S) (l := [108, 101, 97, 118, 101]) (by rw [← hS]; decide)
    have qtold := bne_lit (S := S) (l := [116, 111, 108, 100]) (by rw [← hS]; decide)
    have qnames := bne_lit (S := S) (l := [110, 97, 109, 101, 115]) (by rw [← hS]; decide)
    have qleases := bne_lit (S := S) (l := [108, 101, 97, 115, 101, 115]) (by rw [← hS]; decide)
    have qstreams := bne_lit (S := S) (l := [115, 116, 114, 101, 97, 109, 115]) (by rw [← hS]; decide)
    have qkept := bne_lit (S := S) (l := [107, 101, 112, 116]) (by rw [← hS]; decide)
    have qsave := bne_lit (S := S) (l := [115, 97, 118, 101]) (by rw [← hS]; decide)
    have qload := beq_lit hS.symm
    clear hS
    go_enter Tryd.func22, Tryd.ntmps22
    go_wp2
    go_ret2
    exact ⟨by rw [HV.out]; rfl, rfl⟩
set_option maxRecDepth 20000 in
set_option maxHeartbeats 8000000 in
theorem RefShape_no (S : ByteArray) (w : World) (h : (shpV S.data.toList).2 = false) :
    Calls Tryd.prog 22 #[.string S] w fun e w' => e = .returned (.tuple #[.string (strB (shpV S.data.toList).1), .bool false]) ∧ w = w' := by
  have hne : ∀ r ∈ tab, S.data.toList ≠ r.1 := by
    intro r hr e
    rw [e] at h
    have : ∀ r ∈ tab, (shpV r.1).2 = true := by decide +kernel
    rw [this r hr] at h; cases h
  have HV := Lib.hid (show shpV S.data.toList = ([], false) by rw [shpV, shp_none (fun r hr e => hne r hr e.symm)])
  have qworld := bne_lit (hne ([119, 111, 114, 108, 100], [110, 35, 35, 35, 35, 35, 35]) (by unfold tab; simp))
  have qgrant := bne_lit (hne ([103, 114, 97, 110, 116], [110, 110]) (by unfold tab; simp))
  have qrevoke := bne_lit (hne ([114, 101, 118, 111, 107, 101], [110]) (by unfold tab; simp))
  have qjoin := bne_lit (hne ([106, 111, 105, 110], [110, 110]) (by unfold tab; simp))
  have qcut := bne_lit (hne ([99, 117, 116], [110]) (by unfold tab; simp))
  have qforward := bne_lit (hne ([102, 111, 114, 119, 97, 114, 100], [110, 110]) (by unfold tab; simp))
  have qcancel := bne_lit (hne ([99, 97, 110, 99, 101, 108], [110, 110]) (by unfold tab; simp))
  have qbeat := bne_lit (hne ([98, 101, 97, 116], [110]) (by unfold tab; simp))
  have qdial := bne_lit (hne ([100, 105, 97, 108], [110, 110, 110]) (by unfold tab; simp))
  have qsay := bne_lit (hne ([115, 97, 121], [110, 35, 116]) (by unfold tab; simp))
  have qhear := bne_lit (hne ([104, 101, 97, 114], [110, 35, 35]) (by unfold tab; simp))
  have qend := bne_lit (hne ([101, 110, 100], [110, 35]) (by unfold tab; simp))
  have qcarry := bne_lit (hne ([99, 97, 114, 114, 121], [110, 35, 35]) (by unfold tab; simp))
  have qrun := bne_lit (hne ([114, 117, 110], [35]) (by unfold tab; simp))
  have qtick := bne_lit (hne ([116, 105, 99, 107], [35]) (by unfold tab; simp))
  have qkeep := bne_lit (hne ([107, 101, 101, 112], [110, 110, 35, 35, 35, 42]) (by unfold tab; simp))
  have qleave := bne_lit (hne ([108, 101, 97, 118, 101], [110]) (by unfold tab; simp))
  have qtold := bne_lit (hne ([116, 111, 108, 100], [110]) (by unfold tab; simp))
  have qnames := bne_lit (hne ([110, 97, 109, 101, 115], []) (by unfold tab; simp))
  have qleases := bne_lit (hne ([108, 101, 97, 115, 101, 115], []) (by unfold tab; simp))
  have qstreams := bne_lit (hne ([115, 116, 114, 101, 97, 109, 115], []) (by unfold tab; simp))
  have qkept := bne_lit (hne ([107, 101, 112, 116], []) (by unfold tab; simp))
  have qsave := bne_lit (hne ([115, 97, 118, 101], [110, 35]) (by unfold tab; simp))
  have qload := bne_lit (hne ([108, 111, 97, 100], [110, 35, 116]) (by unfold tab; simp))
  clear hne h
  go_enter Tryd.func22, Tryd.ntmps22
  go_wp2
  go_ret2
  exact ⟨by rw [HV.out]; rfl, rfl⟩
theorem RefShape_any (S : ByteArray) (w : World) :
    Calls Tryd.prog 22 #[.string S] w fun e w' => e = .returned (.tuple #[.string (strB (shpV S.data.toList).1), .bool (shpV S.data.toList).2]) ∧ w = w' := by
  cases h : (shpV S.data.toList).2
  · exact RefShape_no S w h
  · exact RefShape_yes S w h
/-! the program's table -/
def rowC (r : List UInt8 × List UInt8) : List Value := [.string (strB r.1), .string (strB r.2)]
@[irreducible] def rowsV : Array Value := (tab.flatMap rowC).toArray
theorem rowsV_size : rowsV.size = 48 := by unfold rowsV; rfl
theorem rowsV_at : ∀ (k : Nat), k < 24 → ∃ r, tab[k]? = some r ∧ rowsV.extract (k * 2) (k * 2 + 2) = #[.string (strB r.1), .string (strB r.2)]
  | 0, _ => ⟨_, rfl, by unfold rowsV; rfl⟩
  | 1, _ => ⟨_, rfl, by unfold rowsV; rfl⟩
  | 2, _ => ⟨_, rfl, by unfold rowsV; rfl⟩
  | 3, _ => ⟨_, rfl, by unfold rowsV; rfl⟩
  | 4, _ => ⟨_, rfl, by unfold rowsV; rfl⟩
  | 5, _ => ⟨_, rfl, by unfold rowsV; rfl⟩
  | 6, _ => ⟨_, rfl, by unfold rowsV; rfl⟩
  | 7, _ => ⟨_, rfl, by unfold rowsV; rfl⟩
  | 8, _ => ⟨_, rfl, by unfold rowsV; rfl⟩
  | 9, _ => ⟨_, rfl, by unfold rowsV; rfl⟩
  | 10, _ => ⟨_, rfl, by unfold rowsV; rfl⟩
  | 11, _ => ⟨_, rfl, by unfold rowsV; rfl⟩
  | 12, _ => ⟨_, rfl, by unfold rowsV; rfl⟩
  | 13, _ => ⟨_, rfl, by unfold rowsV; rfl⟩
  | 14, _ => ⟨_, rfl, by unfold rowsV; rfl⟩
  | 15, _ => ⟨_, rfl, by unfold rowsV; rfl⟩
  | 16, _ => ⟨_, rfl, by unfold rowsV; rfl⟩
  | 17, _ => ⟨_, rfl, by unfold rowsV; rfl⟩
  | 18, _ => ⟨_, rfl, by unfold rowsV; rfl⟩
  | 19, _ => ⟨_, rfl, by unfold rowsV; rfl⟩
  | 20, _ => ⟨_, rfl, by unfold rowsV; rfl⟩
  | 21, _ => ⟨_, rfl, by unfold rowsV; rfl⟩
  | 22, _ => ⟨_, rfl, by unfold rowsV; rfl⟩
  | 23, _ => ⟨_, rfl, by unfold rowsV; rfl⟩
  | k + 24, h => absurd h (by omega)
theorem run_index_agg {P : Program} (w : World) (xT E : TypeId) (n sz : Nat) (cs : Array Value) (k : Nat) (d : TypeDesc) (hu : P.underlying xT = some (.array n E)) (hi : (P.info? E).map (·.size) = some sz) (hE : P.underlying E = some d) (hd : (match d with | .struct _ | .array _ _ => true | _ => false) = true) (hk : k < n) :
    (Instr.index xT (.agg cs) (.int .i64 k)).run P w = .ok (.agg (cs.extract (k * sz) (k * sz + sz))) w := by
  cases hq : P.info? E with
  | none => simp [hq] at hi
  | some i =>
    have hs : i.size = sz := by simpa [hq] using hi
    have hagg : (isAgg E).run P w = .ok true w := by
      unfold isAgg
      rw [Sem.run_bind, run_underlying hE w]
      cases d <;> simp_all
    unfold Instr.index
    simp [asIntOf, Sem.run_bind, run_underlying hu, sizeOf, typeInfo, hq, hs, part, hagg, hk]
def TabR (w : World) : Prop := ∀ (j : Nat) (v : Value), rowsV[j]? = some v → w.cell? ⟨20, j, none⟩ = some v
theorem TabR.below {w w' : World} (h : TabR w) (hb : Below w.heap.size w w') : TabR w' := fun j v hv => (hb.cell (p := ⟨20, j, none⟩) (World.block_lt_of_cell? _ _ (h j v hv))).trans (h j v hv)
theorem TabR.alloc {w : World} (h : TabR w) (o : Obj) : TabR (w.alloc o) := h.below ((Below.refl _ _).alloc (Nat.le_refl _) o)
theorem shpV_drop (l : List UInt8) (j : Nat) (r : List UInt8 × List UInt8) (hr : tab[j]? = some r) (h : shpV l = match (tab.drop j).find? (fun r => r.1 == l) with | some r => (r.2, true) | none => ([], false)) :
    (r.1 = l → shpV l = (r.2, true)) ∧ (r.1 ≠ l → shpV l = match (tab.drop (j + 1)).find? (fun r => r.1 == l) with | some r => (r.2, true) | none => ([], false)) := by
  have hl : j < tab.length := (List.getElem?_eq_some_iff.1 hr).1
  have he : tab.drop j = r :: tab.drop (j + 1) := by
    rw [List.drop_eq_getElem_cons hl]
    congr 1
    exact (List.getElem?_eq_some_iff.1 hr).2
  rw [he, List.find?_cons] at h
  refine ⟨fun hk => ?_, fun hk => ?_⟩
  · have e : (r.1 == l) = true := by simpa using hk
    rw [h, e]
  · have e : (r.1 == l) = false := by simpa using hk
    rw [h, e]
set_option maxRecDepth 20000 in
set_option maxHeartbeats 4000000 in
theorem Shape_any (S : ByteArray) (w : World) (hT : TabR w) :
    Calls Tryd.prog 17 #[.string S] w fun e w' => e = .returned (.tuple #[.string (strB (shpV S.data.toList).1), .bool (shpV S.data.toList).2]) ∧ Below w.heap.size w w' := by
  have HT := Lib.hid hT
  clear hT
  go_enter Tryd.func17, Tryd.ntmps17
  go_wp2_with (refine Cv.load_cells rfl 64 _ rfl 20 0 rfl rowsV _ (fun j v hv => by rw [Nat.zero_add]; exact HT.out j v hv) Tryd.underlying64 rfl (by rw [rowsV_size]; kernel_rfl) ?_; skip)
  go_loopw [7] (fun i wr => ∃ j : Nat, j ≤ 24 ∧ i = .int .i64 j ∧ (shpV S.data.toList = match (tab.drop j).find? (fun r => r.1 == S.data.toList) with | some r => (r.2, true) | none => ([], false)) ∧ Below w.heap.size w wr) (fun i _ => 25 - (intOf i).toNat)
  case atStart => exact ⟨0, by decide, rfl, by (unfold shpV shp; rw [List.drop_zero]; cases tab.find? (fun r => r.1 == S.data.toList) <;> rfl), Below.refl _ _⟩
  case round =>
    obtain ⟨j, hj, rfl, hrow, hb⟩ := hrel
    have HROW := Lib.hid hrow
    have HB := Lib.hid hb
    have hsz := Lib.hid hb.size
    clear hrow hb
    by_cases hj24 : j < 24
    · obtain ⟨r, hr, hex⟩ := rowsV_at j hj24
      have hidx := run_index_agg (P := Tryd.prog) wr 64 63 24 2 rowsV j _ Tryd.underlying64 (by kernel_rfl) Tryd.underlying63 rfl hj24
      rw [hex] at hidx
      have hways := shpV_drop S.data.toList j r hr HROW.out
      have hij : (j : Int) < 24 := by omega
      have hij0 : (0 : Int) ≤ j := by omega
      clear hex hr
      obtain ⟨kd, sh⟩ := r
      try dsimp only at hidx hways
      by_cases hk : kd = S.data.toList
      · have HF := Lib.hid (hways.1 hk)
        have hd : ((strB kd).toList == S.toList) = true := by rw [beq_iff_eq, strB_toList, ByteArray.toList_eq]; exact hk
        clear hk hways
        go_wp2_with fail
        go_ret2
        exact ⟨by rw [HF.out]; rfl, HB.out.alloc hsz.out _⟩
      · have HF := Lib.hid (hways.2 hk)
        have hd : ((strB kd).toList == S.toList) = false := by rw [beq_eq_false_iff_ne, strB_toList, ByteArray.toList_eq]; exact hk
        clear hk hways
        go_wp2_with fail
        go_roundw
        case rel => exact ⟨j + 1, by omega, by go_num, HF.out, HB.out.alloc hsz.out _⟩
        case measure => simp [intOf]; omega
    · obtain rfl : j = 24 := by omega
      have HF := Lib.hid (show shpV S.data.toList = ([], false) from HROW.out)
      go_wp2_with fail
      go_ret2
      exact ⟨by rw [HF.out]; rfl, HB.out⟩
end Go.Proofs.YtonjgfbefhefjaaDoor.Ln
