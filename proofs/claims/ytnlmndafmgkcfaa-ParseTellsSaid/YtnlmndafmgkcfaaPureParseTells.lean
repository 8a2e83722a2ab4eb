/- Proved: ParseTells: for every line, place and byte, parse.Next, Until, Blank and Words answer as the document's reference does, and the chapter's examples hold. No condition. -/
import Derived.Test.YtnlmndafmgkcfaaPrint2
import Derived.Test.YtnlmndafmgkcfaaD
namespace Go.Proofs.Ytnlmndafmgkcfaa.Pure
open Go.RowKit Go.Proofs.Ytnlmndafmgkcfaa Go.Proofs.Ytnlmndafmgkcfaa.Ext Go.Proofs.Ytnlmndafmgkcfaa.Print Go.Proofs.YtnlmndafmgkcfaaW.PrintWords Go.Proofs.YtnlmndafmgkcfaaW.PrintLast

theorem ParseTells : lightshiplaw16_ParseTells.Pure := by
  intro s a c hs ha hc
  by_cases hbig : (s.size : Int) > 500
  · refine ⟨0, ?_⟩
    unfold lightshiplaw16_ParseTells.f
    rw [if_pos hbig, awake_true]; rfl
  · have hc2 : 0 ≤ c ∧ c ≤ 255 := wf_u8 hc
    have hs2 : s.size ≤ 1048576 := by omega
    have hl := wordsOf_length s 0
    refine Ev.rounds (g := fun k => lightshiplaw16_ParseTells.f k s a c) ?_
    unfold lightshiplaw16_ParseTells.f
    simp only [if_neg hbig, awake_true, until_eq s (by omega) a c hc2.1 hc2.2, parse_Next.f, if_pos (show s.size ≤ 140737488355328 by omega), Option.bind_some]
    refine Ev.bind (refNext_ev s hs2 a) ?_
    refine Ev.bind (refUntilF_ev s hs2 a c) ?_
    simp only [if_true, beq_self_eq_true, parse_Blank.f, Option.bind_some, parse_Words.f, if_pos hs2, uNext]
    refine Ev.bind (refWordsF_ev s hs2) ?_
    refine Ev.bind (textsF_ev _ (by omega)) ?_
    exact Ev.now _
end Go.Proofs.Ytnlmndafmgkcfaa.Pure
