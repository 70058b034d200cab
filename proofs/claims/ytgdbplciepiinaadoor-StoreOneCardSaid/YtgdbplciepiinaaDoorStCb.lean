/- Add and the reference's Add, each in one contract; what keeps a store. -/
import Derived.Test.YtgdbplciepiinaaDoorStIs
set_option linter.unusedVariables false
set_option linter.unusedSimpArgs false
namespace Go.Proofs.YtgdbplciepiinaaDoor.St
open Go.RowKit Go.Proofs.YtgdbplciepiinaaDoor.Ow Go.Proofs.YtgdbplciepiinaaDoor.Cv Go.Proofs.YtgdbplciepiinaaDoor.Mp Go.Maps
theorem IsSt.mono {w : World} {sb bo bw T K N N' : Nat} {L : List Pr} (h : IsSt w sb bo bw T K N L) (hN : N ≤ N') : IsSt w sb bo bw T K N' L := by
  obtain ⟨h1, h2, h3, ⟨f, hf, hfx⟩, ⟨g, s, hg, hgx⟩⟩ := h
  exact ⟨h1, h2, h3, ⟨f, hf.mono hN, hfx⟩, ⟨g, s, hg.mono hN, hgx⟩⟩
theorem Add_any (w : World) (sb bo bw T M N : Nat) (L : List Pr) (h : IsSt w sb bo bw T M N L) (t : List UInt8) (ht : t.length ≤ 1000) (k : List UInt8) (hk : k.length = 32) (a : Nat → Addr) (hE : Ei.ErrsAll w a) (hN : N ≤ 1000) (hm : M ≤ 64 ∧ T ≤ 64) :
    Calls Tryd.prog 18 #[.pointer (some ⟨sb, 0, none⟩), .string (strB t), .agg (bytesV k)] w fun e w' => e = .returned (Ei.evA a (addC T M L t k)) ∧ IsSt w' sb bo bw T M (N + 1) (addL T M L t k) ∧ Sp.Upd w w' [bo, bw] := by
  have hts : (strB t).size ≤ 1000 := by show t.toArray.size ≤ _; rw [List.size_toArray]; exact ht
  have bad : ∀ c, c ≠ 0 → addC T M L t k = c → Calls Tryd.prog 18 #[.pointer (some ⟨sb, 0, none⟩), .string (strB t), .agg (bytesV k)] w (fun e w' => e = .returned (.iface 119 (.pointer (some (a c)))) ∧ Below w.heap.size w w') → Calls Tryd.prog 18 #[.pointer (some ⟨sb, 0, none⟩), .string (strB t), .agg (bytesV k)] w fun e w' => e = .returned (Ei.evA a (addC T M L t k)) ∧ IsSt w' sb bo bw T M (N + 1) (addL T M L t k) ∧ Sp.Upd w w' [bo, bw] := by
    intro c hc he H
    refine H.mono fun e w' ⟨h1, h2⟩ => ⟨by rw [h1, he, Ei.evA_pos a hc], ?_, ⟨h2.os, h2.tape, h2.output, h2.size, fun k hk _ => h2.block k hk⟩⟩
    unfold addL
    rw [if_neg (by rw [he]; exact hc)]
    exact (h.below h2).mono (Nat.le_succ N)
  have good : addC T M L t k = 0 → Calls Tryd.prog 18 #[.pointer (some ⟨sb, 0, none⟩), .string (strB t), .agg (bytesV k)] w (fun e w' => e = .returned .nilIface ∧ IsSt w' sb bo bw T M (N + 1) (L ++ [(t, k)]) ∧ Sp.Upd w w' [bo, bw]) → Calls Tryd.prog 18 #[.pointer (some ⟨sb, 0, none⟩), .string (strB t), .agg (bytesV k)] w fun e w' => e = .returned (Ei.evA a (addC T M L t k)) ∧ IsSt w' sb bo bw T M (N + 1) (addL T M L t k) ∧ Sp.Upd w w' [bo, bw] := by
    intro he H
    unfold addL
    rw [if_pos he]
    exact H.mono fun e w' ⟨h1, h2, h3⟩ => ⟨by rw [h1, he]; rfl, h2, h3⟩
  by_cases hv : validB t = false
  · exact bad 17 (by decide) (by unfold addC; rw [if_pos hv]) (Add_name w sb bo bw T M N L h (strB t) hts k hk a hE hv _ rfl)
  have hv : validB t = true := by simpa using hv
  cases hw : whoOf L k with
  | some t0 => exact bad 9 (by decide) (by unfold addC; rw [if_neg (by rw [hv]; decide), hw]; rfl) (Add_have w sb bo bw T M N L h (strB t) hts k hk a hE hv t0 hw)
  | none =>
    have e0 : addC T M L t k = if keysOf L t = [] ∧ T ≤ (tens L).length then 7 else if M ≤ (keysOf L t).length then 16 else 0 := by
      unfold addC; rw [if_neg (by rw [hv]; decide), hw]; rfl
    by_cases hb : keysOf L t = []
    · have hbe : (keysOf L (strB t).data.toList).isEmpty = true := by show (keysOf L t).isEmpty = true; rw [hb]; rfl
      by_cases hT : T ≤ (tens L).length
      · exact bad 7 (by decide) (by rw [e0, if_pos ⟨hb, hT⟩]) (Add_full w sb bo bw T M N L h (strB t) hts k hk a hE hv hw hbe hT)
      · have hT' : (tens L).length < T := by omega
        by_cases hM : M ≤ (keysOf L t).length
        · exact bad 16 (by decide) (by rw [e0, if_neg (fun e => hT e.2), if_pos hM]) (Add_quota_f w sb bo bw T M N L h (strB t) hts k hk a hE hv hw hbe hT' hM)
        · exact good (by rw [e0, if_neg (fun e => hT e.2), if_neg hM]) (Add_ok_false w sb bo bw T M N L h (strB t) hts k hk hv hw hbe hT' (by show (keysOf L t).length < M; omega) hN hm)
    · have hbe : (keysOf L (strB t).data.toList).isEmpty = false := by
        show (keysOf L t).isEmpty = false
        cases hq : keysOf L t with
        | nil => exact absurd hq hb
        | cons _ _ => rfl
      by_cases hM : M ≤ (keysOf L t).length
      · exact bad 16 (by decide) (by rw [e0, if_neg (fun e => hb e.1), if_pos hM]) (Add_quota_t w sb bo bw T M N L h (strB t) hts k hk a hE hv hw hbe trivial hM)
      · exact good (by rw [e0, if_neg (fun e => hb e.1), if_neg hM]) (Add_ok_true w sb bo bw T M N L h (strB t) hts k hk hv hw hbe trivial (by show (keysOf L t).length < M; omega) hN hm)
theorem RAdd_any (w : World) (T M : Nat) (v : Value) (L : List Pr) (h : PS w v L) (hg : Good L) (hz : L.length ≤ 100000) (t : List UInt8) (ht : t.length ≤ 1000) (k : List UInt8) (hk : k.length = 32) :
    Calls Tryd.prog 17 #[.agg #[.int .i64 (T : Int), .int .i64 (M : Int), v], .string (strB t), .agg (bytesV k)] w fun e w' => ∃ v', e = .returned (.tuple #[.agg #[.int .i64 (T : Int), .int .i64 (M : Int), v'], .int .i64 (addC T M L t k : Nat)]) ∧ PS w' v' (addL T M L t k) ∧ Below w.heap.size w w' := by
  have fin : ∀ (c : Nat) L', addC T M L t k = c → addL T M L t k = L' → Calls Tryd.prog 17 #[.agg #[.int .i64 (T : Int), .int .i64 (M : Int), v], .string (strB t), .agg (bytesV k)] w (fun e w' => ∃ v', e = .returned (.tuple #[.agg #[.int .i64 (T : Int), .int .i64 (M : Int), v'], .int .i64 (c : Int)]) ∧ PS w' v' L' ∧ Below w.heap.size w w') → Calls Tryd.prog 17 #[.agg #[.int .i64 (T : Int), .int .i64 (M : Int), v], .string (strB t), .agg (bytesV k)] w fun e w' => ∃ v', e = .returned (.tuple #[.agg #[.int .i64 (T : Int), .int .i64 (M : Int), v'], .int .i64 (addC T M L t k : Nat)]) ∧ PS w' v' (addL T M L t k) ∧ Below w.heap.size w w' := by
    intro c L' h1 h2 H
    rw [h1, h2]; exact H
  have same : ∀ c : Nat, c ≠ 0 → addC T M L t k = c → addL T M L t k = L := fun c hc he => by unfold addL; rw [if_neg (by rw [he]; exact hc)]
  have more : addC T M L t k = 0 → addL T M L t k = L ++ [(t, k)] := fun he => by unfold addL; rw [if_pos he]
  by_cases hv : validB t = false
  · have e : addC T M L t k = 17 := by unfold addC; rw [if_pos hv]
    exact fin 17 L e (same 17 (by decide) e) (RAdd_name w T M v L h hz t ht k hk hv)
  have hv : validB t = true := by simpa using hv
  cases hw : whoOf L k with
  | some t0 =>
    have e : addC T M L t k = 9 := by unfold addC; rw [if_neg (by rw [hv]; decide), hw]; rfl
    exact fin 9 L e (same 9 (by decide) e) (RAdd_have w T M v L h hz t ht k hk hv t0 hw (fun e0 => by
      have this : validB t0 = true := hg.val _ (whoOf_mem hw)
      rw [e0] at this
      revert this
      decide))
  | none =>
    have e0 : addC T M L t k = if keysOf L t = [] ∧ T ≤ (tens L).length then 7 else if M ≤ (keysOf L t).length then 16 else 0 := by
      unfold addC; rw [if_neg (by rw [hv]; decide), hw]; rfl
    by_cases hb : keysOf L t = []
    · by_cases hT : T ≤ (tens L).length
      · have e : addC T M L t k = 7 := by rw [e0, if_pos ⟨hb, hT⟩]
        exact fin 7 L e (same 7 (by decide) e) (RAdd_full w T M v L h hz t ht k hk hv hw hb hT)
      · have hT' : (tens L).length < T := by omega
        by_cases hM : M ≤ (keysOf L t).length
        · have e : addC T M L t k = 16 := by rw [e0, if_neg (fun e => hT e.2), if_pos hM]
          exact fin 16 L e (same 16 (by decide) e) (RAdd_quota_f w T M v L h hz t ht k hk hv hw hb hT' hM)
        · have e : addC T M L t k = 0 := by rw [e0, if_neg (fun e => hT e.2), if_neg hM]
          exact fin 0 _ e (more e) (RAdd_ok_f w T M v L h hz t ht k hk hv hw hb hT' (by omega))
    · by_cases hM : M ≤ (keysOf L t).length
      · have e : addC T M L t k = 16 := by rw [e0, if_neg (fun e => hb e.1), if_pos hM]
        exact fin 16 L e (same 16 (by decide) e) (RAdd_quota_t w T M v L h hz t ht k hk hv hw hb hM)
      · have e : addC T M L t k = 0 := by rw [e0, if_neg (fun e => hb e.1), if_neg hM]
        exact fin 0 _ e (more e) (RAdd_ok_t w T M v L h hz t ht k hk hv hw hb (by omega))
theorem addC_le (T M : Nat) (L : List Pr) (t k : List UInt8) : addC T M L t k ≤ 20 := by
  unfold addC
  repeat' split
  all_goals omega
theorem addL_len (T M : Nat) (L : List Pr) (t k : List UInt8) : (addL T M L t k).length ≤ L.length + 1 := by
  unfold addL
  split <;> simp
theorem delP_len (L : List Pr) (k : List UInt8) : (delP L k).length ≤ L.length := List.length_filter_le _ _
/-- what is read cell by cell is not in a map's block -/
theorem rd_maps {w w' : World} {A : Option Addr} {xs : List Value} {s : List Nat} (h : Rd w A xs) (hu : Sp.Upd w w' s) (hm : ∀ b ∈ s, ∃ es clock, w.heap[b]? = some (.map es clock)) : Rd w' A xs := fun j x hx => by
  obtain ⟨g, o, e1, e2, e3⟩ := h j x hx
  have hne : g ∉ s := by
    intro hg
    obtain ⟨es, clock, hm⟩ := hm g hg
    unfold World.cell? at e3
    simp [hm] at e3
  refine ⟨g, o, e1, Nat.lt_of_lt_of_le e2 hu.size, ?_⟩
  have := hu.block g e2 hne
  unfold World.cell? at e3 ⊢
  simp only [this]
  exact e3
theorem PS.maps {w w' : World} {v : Value} {L : List Pr} {s : List Nat} (h : PS w v L) (hu : Sp.Upd w w' s) (hm : ∀ b ∈ s, ∃ es clock, w.heap[b]? = some (.map es clock)) : PS w' v L := by
  obtain ⟨A, c, h1, h2, h3, h4, h5⟩ := h
  exact ⟨A, c, h1, h2, h3, rd_maps h4 hu hm, h5⟩
theorem IsSt.isMaps {w : World} {sb bo bw T K N : Nat} {L : List Pr} (h : IsSt w sb bo bw T K N L) : ∀ b ∈ [bo, bw], ∃ es clock, w.heap[b]? = some (.map es clock) := by
  obtain ⟨_, _, _, ⟨f, hf, _⟩, ⟨g, s, hg, _⟩⟩ := h
  intro b hb
  simp at hb
  rcases hb with rfl | rfl
  · exact isMap hf
  · exact isMap hg
/-- rows too long to lie in a small block -/
theorem rd_small {w w' : World} {A : Option Addr} {xs : List Value} {g T : Nat} {cs : Array Value} (h : Rd w A xs) (hB : Rg.Blk w g T cs) (hl : xs = [] ∨ cs.size < xs.length) (hg : w.grownBy w' (some g)) : Rd w' A xs := by
  rcases hl with rfl | hl
  · exact Rd.nil _ _
  · obtain ⟨b, o, rfl, hb, hc⟩ := h.place (by omega)
    have hne : b ≠ g := by
      rintro rfl
      have h1 := hc (xs.length - 1) _ (List.getElem?_eq_getElem (by omega))
      have e : w.cell? ⟨b, o + (xs.length - 1), none⟩ = cs[o + (xs.length - 1)]? := by
        have hB2 := hB
        unfold Rg.Blk at hB2
        unfold World.cell?
        simp [hB2]
      rw [e] at h1
      have := (Array.getElem?_eq_some_iff.1 h1).1
      omega
    intro j x hx
    refine ⟨b, o, rfl, Nat.lt_of_lt_of_le hb hg.size, ?_⟩
    have h1 := hc j x hx
    have := hg.block b hb (fun e => hne (Option.some.inj e))
    unfold World.cell? at h1 ⊢
    simp only [this]
    exact h1
theorem KS.small {w w' : World} {v : Value} {l : List (List UInt8)} {g T : Nat} {cs : Array Value} (h : KS w v l) (hB : Rg.Blk w g T cs) (hs : cs.size < 32) (hg : w.grownBy w' (some g)) : KS w' v l := by
  obtain ⟨A, c, h1, h2, h3, h4, h5⟩ := h
  refine ⟨A, c, h1, h2, h3, rd_small h4 hB ?_ hg, h5⟩
  cases l with
  | nil => exact .inl cells_nil
  | cons x l => exact .inr (by rw [cells_length _ h5, List.length_cons]; omega)
theorem PS.small {w w' : World} {v : Value} {L : List Pr} {g T : Nat} {cs : Array Value} (h : PS w v L) (hB : Rg.Blk w g T cs) (hs : cs.size < 32) (hg : w.grownBy w' (some g)) : PS w' v L := by
  obtain ⟨A, c, h1, h2, h3, h4, h5⟩ := h
  refine ⟨A, c, h1, h2, h3, rd_small h4 hB ?_ hg, h5⟩
  cases L with
  | nil => exact .inl pcells_nil
  | cons x l => exact .inr (by rw [pcells_length _ h5, List.length_cons]; omega)
/-- a small block that is none of the store's was written -/
theorem IsSt.small {w w' : World} {sb bo bw T K N g Ty : Nat} {L : List Pr} {cs : Array Value} (h : IsSt w sb bo bw T K N L) (hB : Rg.Blk w g Ty cs) (hs : cs.size < 32) (hg : w.grownBy w' (some g)) (hne : sb ≠ g) : IsSt w' sb bo bw T K N L := by
  obtain ⟨h1, h2, h3, ⟨f, hf, hfx⟩, ⟨q, s, hq, hqx⟩⟩ := h
  have n1 : bo ≠ g := fun e => hf.ne hB e.symm
  have n2 : bw ≠ g := fun e => hq.ne hB e.symm
  refine ⟨blk_kept h1 hg hne, h2, h3, ⟨f, hf.keep (hg.block bo hf.lt (fun e => n1 (Option.some.inj e))), fun x => ?_⟩, ⟨q, s, hq.keep (hg.block bw hq.lt (fun e => n2 (Option.some.inj e))), hqx⟩⟩
  rcases hfx x with h | ⟨h4, v, h5, h6⟩
  · exact .inl h
  · exact .inr ⟨h4, v, h5, h6.small hB hs hg⟩
theorem upd_blk {w w' : World} {b T : Nat} {cs : Array Value} {s : List Nat} (h : Rg.Blk w b T cs) (hu : Sp.Upd w w' s) (hn : b ∉ s) : Rg.Blk w' b T cs := by
  unfold Rg.Blk at *
  rw [hu.block b (Array.getElem?_eq_some_iff.1 h).1 hn]
  exact h
end Go.Proofs.YtgdbplciepiinaaDoor.St
