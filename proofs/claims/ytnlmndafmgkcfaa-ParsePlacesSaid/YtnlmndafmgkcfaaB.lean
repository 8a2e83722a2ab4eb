/- Contracts of parse.Blank, within, Next. -/
import Derived.Test.YtnlmndafmgkcfaaProg
import Derived.WalkKit
import Derived.Test.YtnlmndafmgkcfaaA
namespace Go.Proofs.Ytnlmndafmgkcfaa
open Go.RowKit

theorem blank_any (c : UInt8) (w : World) :
    Calls Try.prog 12 #[.int .u8 c.toNat] w fun e w' => e = .returned (.bool (isBl c)) ∧ w = w' := by
  go_enter Try.func12, Try.ntmps12
  go_wp2
  go_ret
  exact ⟨rfl, rfl⟩

theorem within_any (s : ByteArray) (p : Int) (w : World) (hs : s.size ≤ maxLen) :
    Calls Try.prog 16 #[.string s, .int .i64 p] w fun e w' => e = .returned (.int .i64 (placeI s.size p)) ∧ w = w' := by
  unfold maxLen at hs
  have h1 : ∀ x : Int, x = placeI s.size p → Ending.returned (Value.int .i64 x) = .returned (.int .i64 (placeI s.size p)) := by intro x h; rw [h]
  go_enter Try.func16, Try.ntmps16
  go_wp2
  all_goals
    go_ret
    refine ⟨h1 _ ?_, rfl⟩
    unfold placeI
    omega

theorem next_end {s : ByteArray} {p : Int} {f t : Nat} (hf : f = nFrom s p) (ht : t = nTo s p) (x : Int) (hx : x = (nNext s p : Nat)) :
    Ending.returned (.tuple #[.string (s.extract f t), .int .i64 x]) = .returned (.tuple #[.string (nWord s p), .int .i64 (nNext s p : Nat)]) := by
  subst hf ht hx; rfl

set_option maxHeartbeats 1000000 in
theorem next_any (s : ByteArray) (p : Int) (w : World) (hs : s.size ≤ 140737488355328) :
    Calls Try.prog 8 #[.string s, .int .i64 p] w fun e w' => e = .returned (.tuple #[.string (nWord s p), .int .i64 (nNext s p : Nat)]) ∧ w = w' := by
  have hm : s.size ≤ maxLen := by unfold maxLen; omega
  go_enter Try.func8, Try.ntmps8
  go_wp2_with (go_at_call 16; refine (within_any _ _ _ hm).mono ?_; rintro e w' ⟨rfl, rfl⟩)
  obtain ⟨K, hK⟩ : ∃ K : Nat, K = placeI s.size p := ⟨_, rfl⟩
  rw [← hK]
  have hK' : Hid (K = placeI s.size p) := hK
  clear hK
  have hKs : K ≤ s.size := by have := hK'.out; have := placeI_le s.size p; omega
  go_loop [6] (fun i => ∃ k : Nat, k ≤ s.size ∧ i = .int .i64 k ∧ Hid (skp s k = skp s K)) (fun i => s.size - (intOf i).toNat)
  case atStart => exact ⟨K, hKs, rfl, rfl⟩
  case round =>
    obtain ⟨k, hk, rfl, H⟩ := hrel
    by_cases hgo : ∃ h : k < s.size, isBl s[k] = true
    · obtain ⟨hlt, hb⟩ := hgo
      go_wp2_with (go_at_call 12; refine (blank_any _ _).mono ?_; rintro e w' ⟨rfl, rfl⟩)
      go_round
      case rel => exact ⟨k + 1, by omega, by go_num, (skp_step hlt hb).symm.trans H.out⟩
      case measure => simp [intOf]; omega
    · have hF : Hid (k = nFrom s p) := by
        show k = nFrom s p
        unfold nFrom
        rw [← hK'.out, ← H.out]
        by_cases hlt : k < s.size
        · exact (skp_stop hlt (by cases hb : isBl s[k]; rfl; exact absurd ⟨hlt, hb⟩ hgo)).symm
        · exact (skp_end hlt).symm
      have hcase : (∃ h : k < s.size, isBl s[k] = false) ∨ ¬ k < s.size := by
        by_cases hlt : k < s.size
        · exact .inl ⟨hlt, by cases hb : isBl s[k]; rfl; exact absurd ⟨hlt, hb⟩ hgo⟩
        · exact .inr hlt
      clear hgo
      have hcase' : (∃ h : k < s.size, (isBl s[k] = false)) ∨ ¬ k < s.size := hcase
      clear hcase
      rcases hcase' with ⟨hlt0, hb0⟩ | hlt0
      all_goals
        go_wp2_with (go_at_call 12; refine (blank_any _ _).mono ?_; rintro e w' ⟨rfl, rfl⟩)
        (try clear hb0)
        go_loop [7] (fun i => ∃ j : Nat, k ≤ j ∧ j ≤ s.size ∧ i = .int .i64 j ∧ Hid (wend s j = wend s k)) (fun i => s.size - (intOf i).toNat)
        case atStart => exact ⟨k, Nat.le_refl _, hk, rfl, rfl⟩
        case round =>
          (try clear hlt0)
          obtain ⟨j, hkj, hj, rfl, HJ⟩ := hrel
          by_cases hgo : ∃ h : j < s.size, isBl s[j] = false
          · obtain ⟨hlt, hb⟩ := hgo
            go_wp2_with (go_at_call 12; refine (blank_any _ _).mono ?_; rintro e w' ⟨rfl, rfl⟩)
            go_round
            case rel => exact ⟨j + 1, by omega, by omega, by go_num, (wend_step hlt hb).symm.trans HJ.out⟩
            case measure => simp [intOf]; omega
          · have hT : Hid (j = nTo s p) := by
              show j = nTo s p
              unfold nTo
              rw [← hF.out, ← HJ.out]
              by_cases hlt : j < s.size
              · exact (wend_stop hlt (by cases hb : isBl s[j]; exact absurd ⟨hlt, hb⟩ hgo; rfl)).symm
              · exact (wend_end hlt).symm
            have hcase : (∃ h : j < s.size, isBl s[j] = true) ∨ ¬ j < s.size := by
              by_cases hlt : j < s.size
              · exact .inl ⟨hlt, by cases hb : isBl s[j]; exact absurd ⟨hlt, hb⟩ hgo; rfl⟩
              · exact .inr hlt
            clear hgo
            rcases hcase with ⟨hlt1, hb1⟩ | hlt1
            all_goals
              go_wp2_with (go_at_call 12; refine (blank_any _ _).mono ?_; rintro e w' ⟨rfl, rfl⟩)
              all_goals
                go_ret2
                refine ⟨next_end hF.out hT.out _ ?_, rfl⟩
                unfold nNext
                rw [← hT.out]
                first | omega | (unfold wrap64 at *; omega)
end Go.Proofs.Ytnlmndafmgkcfaa
