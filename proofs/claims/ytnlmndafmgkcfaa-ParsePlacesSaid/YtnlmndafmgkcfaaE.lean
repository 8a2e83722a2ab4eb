/- Plain facts for ParseUntil and ParsePlaces: a line from a place on. -/
import Derived.Test.YtnlmndafmgkcfaaD
namespace Go.Proofs.Ytnlmndafmgkcfaa.Pure
open Go.RowKit Go.Proofs.Ytnlmndafmgkcfaa Go.Proofs.Ytnlmndafmgkcfaa.Ext Go.Proofs.Ytnlmndafmgkcfaa.Print Go.Proofs.YtnlmndafmgkcfaaW.PrintWords Go.Proofs.YtnlmndafmgkcfaaW.PrintLast

theorem extract_size' (s : ByteArray) {f t : Nat} (ht : t ≤ s.size) : (s.extract f t).size = t - f := by rw [ByteArray.size_extract]; omega
theorem bt_extract (s : ByteArray) (f t j : Nat) (ht : t ≤ s.size) (h : f + j < t) : bt (s.extract f t) (j : Int) = bt s ((f + j : Nat) : Int) := by
  have hsz := extract_size' s (f := f) ht
  rw [bt_eq (show j < (s.extract f t).size by omega), bt_eq (show f + j < s.size by omega)]
  congr 2
  simp [ByteArray.getElem_eq_getElem_data]
theorem extract_split (s : ByteArray) {K u n : Nat} (h1 : K ≤ u) (h2 : u ≤ n) : s.extract K u ++ s.extract u n = s.extract K n := by
  apply ba_ext
  rw [ByteArray.data_append, Array.toList_append, Lib.extract_data, Lib.extract_data, Lib.extract_data]
  rw [show n - K = (u - K) + (n - u) by omega, List.take_add, List.drop_drop, show K + (u - K) = u by omega]
theorem extract_extract (s : ByteArray) {K n f t : Nat} (h : K + t ≤ n) : (s.extract K n).extract f t = s.extract (K + f) (K + t) := by
  apply ba_ext
  rw [Lib.extract_data, Lib.extract_data, Lib.extract_data, List.drop_take, List.drop_drop, List.take_take, show min (t - f) (n - K - f) = t - f by omega, show K + t - (K + f) = t - f by omega]

theorem skp_shift (s : ByteArray) (K j : Nat) (hK : K ≤ s.size) (hj : K + j ≤ s.size) : skp s (K + j) = K + skp (s.extract K s.size) j := by
  have hsz := extract_size' s (f := K) (Nat.le_refl s.size)
  by_cases hlt : K + j < s.size
  · have hlt2 : j < (s.extract K s.size).size := by omega
    have hb := bt_extract s K s.size j (Nat.le_refl _) hlt
    cases h : isBl s[K + j]
    · have h2 : isBl (s.extract K s.size)[j] = false := by
        cases h3 : isBl (s.extract K s.size)[j]; rfl
        have := (isBl_iff hlt2).1 h3; rw [hb] at this
        have := (isBl_iff hlt).2 this; rw [h] at this; cases this
      rw [skp_stop hlt h, skp_stop hlt2 h2]
    · have h2 : isBl (s.extract K s.size)[j] = true := by rw [isBl_iff hlt2, hb]; exact (isBl_iff hlt).1 h
      rw [skp_step hlt h, skp_step hlt2 h2, Nat.add_assoc, skp_shift s K (j + 1) hK (by omega)]
  · rw [skp_end hlt, skp_end (by omega)]
termination_by s.size - (K + j)
theorem wend_shift (s : ByteArray) (K j : Nat) (hK : K ≤ s.size) (hj : K + j ≤ s.size) : wend s (K + j) = K + wend (s.extract K s.size) j := by
  have hsz := extract_size' s (f := K) (Nat.le_refl s.size)
  by_cases hlt : K + j < s.size
  · have hlt2 : j < (s.extract K s.size).size := by omega
    have hb := bt_extract s K s.size j (Nat.le_refl _) hlt
    cases h : isBl s[K + j]
    · have h2 : isBl (s.extract K s.size)[j] = false := by
        cases h3 : isBl (s.extract K s.size)[j]; rfl
        have := (isBl_iff hlt2).1 h3; rw [hb] at this
        have := (isBl_iff hlt).2 this; rw [h] at this; cases this
      rw [wend_step hlt h, wend_step hlt2 h2, Nat.add_assoc, wend_shift s K (j + 1) hK (by omega)]
    · have h2 : isBl (s.extract K s.size)[j] = true := by rw [isBl_iff hlt2, hb]; exact (isBl_iff hlt).1 h
      rw [wend_stop hlt h, wend_stop hlt2 h2]
  · rw [wend_end hlt, wend_end (by omega)]
termination_by s.size - (K + j)
theorem upTo_shift (s : ByteArray) (c : Int) (K j : Nat) (hK : K ≤ s.size) (hj : K + j ≤ s.size) : upTo s c (K + j) = K + upTo (s.extract K s.size) c j := by
  have hsz := extract_size' s (f := K) (Nat.le_refl s.size)
  by_cases hlt : K + j < s.size
  · have hlt2 : j < (s.extract K s.size).size := by omega
    have hb := bt_extract s K s.size j (Nat.le_refl _) hlt
    by_cases h : bt s ((K + j : Nat) : Int) = c
    · rw [upTo_stop hlt h, upTo_stop hlt2 (hb.trans h)]
    · rw [upTo_step hlt h, upTo_step hlt2 (by rw [hb]; exact h), Nat.add_assoc, upTo_shift s c K (j + 1) hK (by omega)]
  · rw [upTo_end hlt, upTo_end (by omega)]
termination_by s.size - (K + j)

/-- what is told from a place on, by the rest of the line alone. -/
theorem next_rest (s : ByteArray) (a : Int) (K : Nat) (hK : K ≤ s.size) (h : skp s (placeI s.size a) = skp s K) :
    nWord s a = nWord (s.extract K s.size) 0 ∧ nNext s a = nNext (s.extract K s.size) 0 + K := by
  have hsz := extract_size' s (f := K) (Nat.le_refl s.size)
  have hF : nFrom s a = K + nFrom (s.extract K s.size) 0 := by
    have e : nFrom (s.extract K s.size) 0 = skp (s.extract K s.size) 0 := nFrom_nat (i := 0) (by omega)
    rw [e, ← skp_shift s K 0 hK (by omega)]; exact h
  have hle := nFrom_le (s.extract K s.size) 0
  have hT : nTo s a = K + nTo (s.extract K s.size) 0 := by
    unfold nTo
    rw [hF, wend_shift s K _ hK (by omega)]
  have hle2 := nTo_le (s.extract K s.size) 0
  constructor
  · unfold nWord
    rw [hF, hT, extract_extract s (by omega)]
  · unfold nNext
    rw [hT]; omega
theorem until_rest (s : ByteArray) (a c : Int) : uText s a c = uText (s.extract (placeI s.size a) s.size) 0 c ∧ uNext s a c = uNext (s.extract (placeI s.size a) s.size) 0 c + placeI s.size a ∧ (uEnd s a c < s.size ↔ uEnd (s.extract (placeI s.size a) s.size) 0 c < (s.extract (placeI s.size a) s.size).size) := by
  have hK := placeI_le s.size a
  generalize hk : placeI s.size a = K at *
  have hsz := extract_size' s (f := K) (Nat.le_refl s.size)
  have hp : placeI (s.extract K s.size).size 0 = 0 := by unfold placeI; omega
  have hU : uEnd s a c = K + uEnd (s.extract K s.size) 0 c := by
    unfold uEnd
    rw [hk, hp, ← upTo_shift s c K 0 hK (by omega)]; rfl
  have hle : uEnd (s.extract K s.size) 0 c ≤ (s.extract K s.size).size := upTo_le _ _ _ (placeI_le _ _)
  refine ⟨?_, ?_, by omega⟩
  · have e1 : uText s a c = s.extract K (uEnd s a c) := by unfold uText uEnd; rw [hk]
    have e2 : uText (s.extract K s.size) 0 c = (s.extract K s.size).extract 0 (uEnd (s.extract K s.size) 0 c) := by unfold uText uEnd; rw [hp]
    rw [e1, e2, hU, extract_extract s (by omega)]; rfl
  · unfold uNext
    rw [hU]; omega
end Go.Proofs.Ytnlmndafmgkcfaa.Pure
