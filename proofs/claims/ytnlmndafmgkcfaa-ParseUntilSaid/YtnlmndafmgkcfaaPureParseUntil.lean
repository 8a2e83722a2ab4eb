/- Proved: ParseUntil: for every line, place in it and byte, what is read up to the byte, the byte, and what is left are the line from the place on, and the byte is not in what is read. No condition. -/
import Derived.Test.YtnlmndafmgkcfaaPrint4
import Derived.Test.YtnlmndafmgkcfaaE
namespace Go.Proofs.Ytnlmndafmgkcfaa.Pure
open Go.RowKit Go.Proofs.Ytnlmndafmgkcfaa Go.Proofs.Ytnlmndafmgkcfaa.Ext Go.Proofs.Ytnlmndafmgkcfaa.Print Go.Proofs.YtnlmndafmgkcfaaW.PrintWords Go.Proofs.YtnlmndafmgkcfaaW.PrintLast

theorem until_last (s : ByteArray) (hs : s.size ≤ 500) (c : Int) (K : Nat) (hK : K ≤ s.size) (j : Nat) (hj : j ≤ upTo s c K - K) :
    Ev (fun k => lightshiplaw16_ParseUntil.l0 k s c (K : Int) (s.extract K (upTo s c K)) ((min (upTo s c K + 1) s.size : Nat) : Int) (decide (upTo s c K < s.size)) ((upTo s c K - K : Nat) : Int) (j : Int)) true := by
  have hg := upTo_ge s c K
  have hl := upTo_le s c K hK
  have hsz := extract_size' s (f := K) hl
  by_cases hlt : j < upTo s c K - K
  · refine Ev.step (fun k => ?_) (until_last s hs c K hK (j + 1) (by omega))
    simp only [lightshiplaw16_ParseUntil.l0]
    rw [if_pos (by omega), if_pos (by omega), if_pos (by omega), if_neg ?_, w64 (by omega)]
    · norm_cast
    · rw [bt_extract s K _ j hl (by omega)]
      exact upTo_before s c K (K + j) (by omega) (by omega)
  · refine Ev.step (fun k => ?_) (Ev.now _)
    simp only [lightshiplaw16_ParseUntil.l0]
    rw [if_neg (by omega)]
    by_cases hu : upTo s c K < s.size
    · have hc := upTo_at s c K hu
      have hx : s.extract K (upTo s c K) ++ strOfNums [c] ++ s.extract (upTo s c K + 1) s.size = s.extract K s.size := by
        have h := extract_cons hu (Nat.le_refl s.size)
        rw [hc] at h
        rw [ByteArray.append_assoc, ← h, extract_split s hg hl]
      rw [if_pos (by simpa using hu), if_pos (by omega), if_pos (by omega)]
      simp only [Option.bind_some]
      rw [if_pos (by rw [one_size]; omega), if_pos (by omega), show ((min (upTo s c K + 1) s.size : Nat) : Int).toNat = upTo s c K + 1 by omega, if_pos (by
        rw [ByteArray.size_append, one_size, extract_size' s (Nat.le_refl _)]; omega), if_pos (by omega), if_pos (by omega), Int.toNat_natCast, hx, if_pos rfl, awake_true]
      rfl
    · have e : upTo s c K = s.size := by omega
      rw [if_neg (by simpa using hu), if_pos (by omega), if_pos (by omega), Int.toNat_natCast, e, if_pos rfl, if_pos (by omega), awake_true]
      rfl
termination_by upTo s c K - K - j

theorem ParseUntil : lightshiplaw16_ParseUntil.Pure := by
  intro s a c _ ha hc
  have hc2 := wf_u8 hc
  have ha2 := wf_u16 ha
  by_cases hbig : (s.size : Int) > 500
  · refine ⟨0, ?_⟩
    unfold lightshiplaw16_ParseUntil.f
    rw [if_pos hbig, awake_true]; rfl
  · refine Ev.rounds (g := fun k => lightshiplaw16_ParseUntil.f k s a c) ?_
    unfold lightshiplaw16_ParseUntil.f
    have hw : wrap64 ((s.size : Int) + 1) = (s.size : Int) + 1 := w64 (by omega)
    have hm : Int.tmod (wrap64 a) ((s.size : Int) + 1) = ((a % ((s.size : Int) + 1)).toNat : Nat) := by
      rw [w64 (by omega), Int.tmod_eq_emod_of_nonneg ha2.1, Int.toNat_of_nonneg (Int.emod_nonneg _ (by omega))]
    have hlt := Int.emod_lt_of_pos a (show 0 < (s.size : Int) + 1 by omega)
    have hge := Int.emod_nonneg a (show (s.size : Int) + 1 ≠ 0 by omega)
    simp only [if_neg hbig, hw, if_neg (show ¬ (s.size : Int) + 1 = 0 by omega), hm]
    generalize hk : (a % ((s.size : Int) + 1)).toNat = K
    have hK : K ≤ s.size := by omega
    simp only [until_eq s (show s.size ≤ 140737488355328 by omega) (K : Int) c hc2.1 hc2.2, Option.bind_some]
    have h := until_last s (by omega) c K hK 0 (by omega)
    have hg := upTo_ge s c K
    have hsz := extract_size' s (f := K) (upTo_le s c K hK)
    unfold uText uNext uEnd
    rw [placeI_nat hK, hsz]
    exact h
end Go.Proofs.Ytnlmndafmgkcfaa.Pure
