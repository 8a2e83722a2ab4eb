/- Proved: ParsePlaces: for every line, place and byte, a place below 0 is as 0, one beyond the end as the end, from a place within a word its rest is told, and blanks ahead say nothing. No condition. -/
import Derived.Test.YtnlmndafmgkcfaaPrint5
import Derived.Test.YtnlmndafmgkcfaaE
namespace Go.Proofs.Ytnlmndafmgkcfaa.Pure
open Go.RowKit Go.Proofs.Ytnlmndafmgkcfaa Go.Proofs.Ytnlmndafmgkcfaa.Ext Go.Proofs.Ytnlmndafmgkcfaa.Print Go.Proofs.YtnlmndafmgkcfaaW.PrintWords Go.Proofs.YtnlmndafmgkcfaaW.PrintLast

abbrev two : ByteArray := ⟨#[32, 9]⟩
theorem two_size : two.size = 2 := rfl
theorem two_rest (s : ByteArray) : (two ++ s).extract 2 (two ++ s).size = s := by
  apply ba_ext
  rw [Lib.extract_to_end, ByteArray.data_append, Array.toList_append]
  rfl
theorem two_bt (s : ByteArray) (j : Nat) (hj : j < 2) : bt (two ++ s) (j : Int) ≤ 32 := by
  have hsz : (two ++ s).size = 2 + s.size := by rw [ByteArray.size_append, two_size]
  rw [bt_eq (by omega)]
  have e : (two ++ s)[j]'(by omega) = two[j]'(by rw [two_size]; exact hj) := by
    rw [ByteArray.getElem_append_left]
  rw [e]
  rcases (show j = 0 ∨ j = 1 by omega) with rfl | rfl
  · exact (by decide : ((32 : UInt8).toNat : Int) ≤ 32)
  · exact (by decide : ((9 : UInt8).toNat : Int) ≤ 32)
theorem two_skip (s : ByteArray) : skp (two ++ s) 0 = skp (two ++ s) 2 := by
  have hsz : (two ++ s).size = 2 + s.size := by rw [ByteArray.size_append, two_size]
  rw [skp_step (by omega) ((isBl_iff (by omega)).2 (two_bt s 0 (by omega))), skp_step (by omega) ((isBl_iff (by omega)).2 (two_bt s 1 (by omega)))]

theorem ParsePlaces : lightshiplaw16_ParsePlaces.Pure := by
  intro s a c _ _ hc
  have hc2 := wf_u8 hc
  by_cases hbig : (s.size : Int) > 300
  · refine ⟨0, ?_⟩
    unfold lightshiplaw16_ParsePlaces.f
    rw [if_pos hbig, awake_true]; rfl
  · refine ⟨1, ?_⟩
    have hK := placeI_le s.size a
    have hn := next_rest s a (placeI s.size a) hK rfl
    have hu := until_rest s a c
    unfold lightshiplaw16_ParsePlaces.f
    rw [if_neg hbig, mnmx]
    generalize hk : placeI s.size a = K at *
    have hsz := extract_size' s (f := K) (Nat.le_refl s.size)
    have hle := nNext_le (s.extract K s.size) 0
    have hle2 : uNext (s.extract K s.size) 0 c ≤ (s.extract K s.size).size := by unfold uNext; omega
    rw [Int.toNat_natCast, until_eq s (by omega) a c hc2.1 hc2.2, until_eq (s.extract K s.size) (by omega) 0 c hc2.1 hc2.2]
    simp only [parse_Next.f, if_pos (show s.size ≤ 140737488355328 by omega), if_pos (show (s.extract K s.size).size ≤ 140737488355328 by omega), Option.bind_some]
    rw [if_pos (by omega), if_pos (by omega), if_pos (by rw [hn.1]), if_pos (by rw [hn.2, w64 (by omega)]; omega), if_pos (by rw [hu.1]), if_pos (by rw [hu.2.1, w64 (by omega)]; omega)]
    have hd : (decide (uEnd s a c < s.size) != decide (uEnd (s.extract K s.size) 0 c < (s.extract K s.size).size)) = false := by
      rw [bne_eq_false_iff_eq]; exact decide_eq_decide.2 hu.2.2
    rw [hd]
    simp only [lightshiplaw16_ParsePlaces.j0]
    have hsz2 : (two ++ s).size = 2 + s.size := by rw [ByteArray.size_append, two_size]
    rw [if_neg (by simp), if_pos (by omega)]
    simp only [parse_Next.f, if_pos (show (two ++ s).size ≤ 140737488355328 by omega), Option.bind_some]
    by_cases h0 : K = 0
    · subst h0
      have ht := next_rest (two ++ s) 0 2 (by omega) (by rw [show placeI (two ++ s).size 0 = 0 by unfold placeI; omega]; exact two_skip s)
      rw [two_rest] at ht
      have hx : s.extract 0 s.size = s := by
        apply ba_ext; rw [Lib.extract_data, List.drop_zero]; exact List.take_of_length_le (by simp)
      rw [hx] at hn
      have hle3 := nNext_le s 0
      rw [show ((0 : Nat) : Int) = 0 from rfl, if_pos rfl, if_pos (by rw [ht.1, hn.1]), if_pos (by rw [ht.2, hn.2, w64 (by omega)]; omega), awake_true]; rfl
    · have hle4 : nNext ((⟨#[32, 9]⟩ : ByteArray) ++ s) (K : Int) ≤ ((⟨#[32, 9]⟩ : ByteArray) ++ s).size := nNext_le (two ++ s) (K : Int)
      have hsz3 : ((⟨#[32, 9]⟩ : ByteArray) ++ s).size = 2 + s.size := hsz2
      rw [if_neg (by omega), if_pos (by omega), if_pos (by rw [w64 (by omega)]; omega), awake_true]; rfl
end Go.Proofs.Ytnlmndafmgkcfaa.Pure
