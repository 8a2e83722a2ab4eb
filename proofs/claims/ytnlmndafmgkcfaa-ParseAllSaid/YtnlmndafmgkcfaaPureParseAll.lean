/- Proved: ParseAll: for every two lines and every blank between, Next again and again tells all words of the first line, none with a blank, and comes to its end; both lines with the blank between have the words of both. No condition. -/
import Derived.Test.YtnlmndafmgkcfaaPrint3
import Derived.Test.YtnlmndafmgkcfaaD
namespace Go.Proofs.Ytnlmndafmgkcfaa.Pure
open Go.RowKit Go.Proofs.Ytnlmndafmgkcfaa Go.Proofs.Ytnlmndafmgkcfaa.Ext Go.Proofs.Ytnlmndafmgkcfaa.Print Go.Proofs.YtnlmndafmgkcfaaW.PrintWords Go.Proofs.YtnlmndafmgkcfaaW.PrintLast

/-! ### words of a list of bytes -/
def flush (acc : List UInt8) : List (List UInt8) := if acc = [] then [] else [acc]
def go (acc : List UInt8) : List UInt8 → List (List UInt8)
  | [] => flush acc
  | c :: l => if isBl c = true then flush acc ++ go [] l else go (acc ++ [c]) l
theorem go_append (acc l : List UInt8) (b : UInt8) (t : List UInt8) (hb : isBl b = true) : go acc (l ++ b :: t) = go acc l ++ go [] t := by
  induction l generalizing acc with
  | nil => simp [go, hb]
  | cons c l ih =>
    simp only [List.cons_append, go]
    split
    · rw [ih, List.append_assoc]
    · rw [ih]
theorem data_get {s : ByteArray} {i : Nat} (_h : i < s.size) (hl : i < s.data.toList.length) : s.data.toList[i] = s[i] := by simp [ByteArray.getElem_eq_getElem_data]
theorem go_word (s : ByteArray) (i : Nat) (hi : i ≤ s.size) (acc : List UInt8) :
    go acc (s.data.toList.drop i) = flush (acc ++ (s.extract i (wend s i)).data.toList) ++ go [] (s.data.toList.drop (min (wend s i + 1) s.size)) := by
  by_cases hlt : i < s.size
  · have hl : i < s.data.toList.length := by simpa using hlt
    cases hb : isBl s[i]
    · have ih := go_word s (i + 1) (by omega) (acc ++ [s[i]])
      have hw := wend_ge s (i + 1)
      have hw2 := wend_le s (i + 1) (by omega)
      rw [wend_step hlt hb, extract_cons (show i < wend s (i + 1) by omega) hw2, List.drop_eq_getElem_cons hl, data_get hlt]
      simp only [go, hb]
      rw [if_neg (by simp), ih, ByteArray.data_append, Array.toList_append, strOfNums_data]
      simp only [List.map_cons, List.map_nil, ofNat_bt hlt]
      rw [List.append_assoc]
    · rw [wend_stop hlt hb, extract_nil, List.drop_eq_getElem_cons hl, data_get hlt]
      simp only [go, hb, if_true, List.append_nil]
      rw [show min (i + 1) s.size = i + 1 by omega]
  · rw [wend_end hlt, extract_nil, List.drop_eq_nil_of_le (by simpa using hlt), List.drop_eq_nil_of_le (by simp; omega)]
    simp [go, flush]
termination_by s.size - i
theorem go_skip (s : ByteArray) (i : Nat) : go [] (s.data.toList.drop i) = go [] (s.data.toList.drop (skp s i)) := by
  by_cases hlt : i < s.size
  · have hl : i < s.data.toList.length := by simpa using hlt
    cases hb : isBl s[i]
    · rw [skp_stop hlt hb]
    · rw [skp_step hlt hb, ← go_skip s (i + 1), List.drop_eq_getElem_cons hl, data_get hlt]
      simp [go, hb, flush]
  · rw [skp_end hlt]
termination_by s.size - i
theorem words_go (s : ByteArray) (k : Nat) (hk : k ≤ s.size) : (wordsOf s k).map (fun b => b.data.toList) = go [] (s.data.toList.drop k) := by
  by_cases hlt : k < s.size
  · have hgt := nNext_gt s k hlt
    have hle := nNext_le s (k : Int)
    have ih := words_go s (nNext s (k : Int)) hle
    have hF := nFrom_nat hk
    have hg := go_word s (nFrom s (k : Int)) (nFrom_le _ _) []
    have hsz := nWord_size s (k : Int)
    rw [List.nil_append] at hg
    rw [go_skip s k, ← hF, hg]
    have e1 : wend s (nFrom s (k : Int)) = nTo s (k : Int) := rfl
    have e2 : min (nTo s (k : Int) + 1) s.size = nNext s (k : Int) := rfl
    have e3 : s.extract (nFrom s (k : Int)) (nTo s (k : Int)) = nWord s (k : Int) := rfl
    rw [e1, e2, e3]
    by_cases hw : nFrom s (k : Int) < nTo s (k : Int)
    · rw [wordsOf_word hlt hw, List.map_cons, ih]
      unfold flush
      rw [if_neg (fun h => by have := (ba_nil (nWord s (k : Int))).1 (by rw [Lib.toList_data]; exact h); omega)]
      rfl
    · rw [wordsOf_none hlt hw, ih]
      unfold flush
      rw [if_pos (by rw [← Lib.toList_data]; exact (ba_nil _).2 (by omega))]
      rfl
  · rw [wordsOf_end hlt, List.drop_eq_nil_of_le (by simpa using hlt)]; simp [go, flush]
termination_by s.size - k
theorem words_both (s t : ByteArray) (c : Int) (h0 : 0 ≤ c) (h1 : c ≤ 32) : wordsOf ((s ++ strOfNums [c]) ++ t) 0 = wordsOf s 0 ++ wordsOf t 0 := by
  have hinj : ∀ a b : List ByteArray, a.map (fun b => b.data.toList) = b.map (fun b => b.data.toList) → a = b := by
    intro a
    induction a with
    | nil => intro b h; cases b with | nil => rfl | cons => simp at h
    | cons x a ih =>
      intro b h
      cases b with
      | nil => simp at h
      | cons y b =>
        simp only [List.map_cons, List.cons.injEq] at h
        rw [ba_ext h.1, ih b h.2]
  apply hinj
  rw [List.map_append, words_go _ 0 (by omega), words_go _ 0 (by omega), words_go _ 0 (by omega)]
  simp only [List.drop_zero, ByteArray.data_append, Array.toList_append, strOfNums_data, List.map_cons, List.map_nil, List.append_assoc, List.cons_append, List.nil_append]
  exact go_append [] _ _ _ (by
    unfold isBl
    rw [decide_eq_true_iff]
    simp; omega)

/-! ### the law's loops -/
theorem bt_extract (s : ByteArray) (f t j : Nat) (ht : t ≤ s.size) (h : f + j < t) : bt (s.extract f t) (j : Int) = bt s ((f + j : Nat) : Int) := by
  have hsz : (s.extract f t).size = t - f := by rw [ByteArray.size_extract]; omega
  rw [bt_eq (show j < (s.extract f t).size by omega), bt_eq (show f + j < s.size by omega)]
  congr 2
  simp [ByteArray.getElem_eq_getElem_data]
theorem wend_between (s : ByteArray) (i j : Nat) (h : i ≤ j) (hj : j < wend s i) : 32 < bt s (j : Int) := by
  by_cases hlt : i < s.size
  · cases hb : isBl s[i]
    · have h32 : bt s (i : Int) > 32 := by have := isBl_iff hlt; rw [hb] at this; simp at this; omega
      by_cases e : i = j
      · subst e; omega
      · rw [wend_step hlt hb] at hj
        exact wend_between s (i + 1) j (by omega) hj
    · rw [wend_stop hlt hb] at hj; omega
  · rw [wend_end hlt] at hj; omega
termination_by s.size - i

section
variable (s t : ByteArray) (c : Int) (hs : s.size ≤ 300) (ht : t.size ≤ 300) (hc : 0 ≤ c)
include hs ht hc

theorem j5_ev : Ev (fun k => lightshiplaw16_ParseAll.j5 k s t c (wordsOf s 0) false) true := by
  have hl := wordsOf_length s 0
  have hl2 := wordsOf_length t 0
  have hm : 0 ≤ Int.tmod c 33 ∧ Int.tmod c 33 ≤ 32 := by rw [Int.tmod_eq_emod_of_nonneg hc]; omega
  have hsz : (s ++ strOfNums [Int.tmod c 33]).size = s.size + 1 := by rw [ByteArray.size_append, one_size]
  have hsz2 : (s ++ strOfNums [Int.tmod c 33] ++ t).size = s.size + 1 + t.size := by rw [ByteArray.size_append, hsz]
  refine Ev.step (f := fun k => (lightshiplaw16_texts.f k (wordsOf s 0 ++ wordsOf t 0) (wordsOf s 0 ++ wordsOf t 0)).bind fun t181 => (if t181 = true then ((lightshiplaw16_awake.f).bind fun t182 => (some t182)) else (some false))) (fun k => ?_) ?_
  · simp only [lightshiplaw16_ParseAll.j5]
    rw [if_neg (by simp)]
    simp only [Option.bind_some]
    rw [if_pos (by rw [one_size]; omega), if_pos (by rw [hsz]; omega)]
    simp only [parse_Words.f]
    rw [if_pos (by rw [hsz2]; omega), if_pos (show t.size ≤ 1048576 by omega), words_both s t _ hm.1 hm.2]
    simp only [Option.bind_some, List.nil_append, List.length_nil]
    rw [if_pos (by omega), if_pos (by omega)]
  · refine Ev.bind (textsF_ev _ (by rw [List.length_append]; omega)) ?_
    simp only [if_true, awake_true, Option.bind_some]
    exact Ev.now _

theorem j4_ev : Ev (fun k => lightshiplaw16_ParseAll.j4 k s t c (wordsOf s 0) (s.size : Int) ((wordsOf s 0).length : Int)) true := by
  refine Ev.step (fun k => ?_) (j5_ev s t c hs ht hc)
  simp only [lightshiplaw16_ParseAll.j4]
  rw [if_pos trivial, show ((((wordsOf s 0).length : Int)) != ((wordsOf s 0).length : Int)) = false by simp]

theorem l0_ev (k r : Nat) (hk : k ≤ s.size) (hr : r ≤ k) (pre : List ByteArray) (hp : wordsOf s 0 = pre ++ wordsOf s k) :
    Ev (fun n => lightshiplaw16_ParseAll.l0 n s t c (wordsOf s 0) (k : Int) (pre.length : Int) ((s.size + 1 : Nat) : Int) (r : Int)) true := by
  by_cases hlt : k < s.size
  · have hgt := nNext_gt s k hlt
    have hle := nNext_le s (k : Int)
    have hsz := nWord_size s (k : Int)
    have hto := nTo_le s (k : Int)
    have e1 : ¬ ((k : Int) = (s.size : Int)) := by omega
    by_cases hw : nFrom s (k : Int) < nTo s (k : Int)
    · have hp2 : wordsOf s 0 = (pre ++ [nWord s (k : Int)]) ++ wordsOf s (nNext s (k : Int)) := by rw [hp, wordsOf_word hlt hw]; simp
      have ih := l0_ev (nNext s (k : Int)) (r + 1) hle (by omega) _ hp2
      have hlen := congrArg List.length hp2
      have hl := wordsOf_length s 0
      simp only [List.length_append, List.length_cons, List.length_nil] at hlen
      -- the inner loop: no blank in the word
      have inner : ∀ d j : Nat, (nWord s (k : Int)).size - j = d → j ≤ (nWord s (k : Int)).size →
          Ev (fun n => lightshiplaw16_ParseAll.l1 n s t c (wordsOf s 0) ((nNext s (k : Int) : Nat) : Int) (pre.length : Int) (nWord s (k : Int)) ((s.size + 1 : Nat) : Int) (r : Int) ((nWord s (k : Int)).size : Int) (j : Int)) true := by
        intro d
        induction d with
        | zero =>
          intro j hd hj
          refine Ev.step (fun n => ?_) ih
          simp only [lightshiplaw16_ParseAll.l1]
          rw [if_neg (by omega), if_neg (by omega), if_pos (by omega), if_pos (by omega), if_pos ?_, w64 (by omega), w64 (by omega)]
          · simp
          · unfold rdOf
            rw [hp2, Int.toNat_natCast]
            simp [List.getD]
        | succ d ihd =>
          intro j hd hj
          refine Ev.step (fun n => ?_) (ihd (j + 1) (by omega) (by omega))
          have hb : 32 < bt (nWord s (k : Int)) (j : Int) := by
            have hle2 := nTo_le s (k : Int)
            unfold nWord
            rw [bt_extract s _ _ j hle2 (by omega)]
            exact wend_between s (nFrom s (k : Int)) _ (by omega) (by show _ < nTo s (k : Int); omega)
          simp only [lightshiplaw16_ParseAll.l1]
          rw [if_pos (by omega), if_pos (by omega), if_pos (by omega)]
          simp only [parse_Blank.f, Option.bind_some]
          rw [if_neg (by simp; omega), w64 (by omega)]
          norm_cast
      refine Ev.step (fun n => ?_) (Ev.step (g := fun n => lightshiplaw16_ParseAll.j2 n s t c (wordsOf s 0) (pre.length : Int) (nWord s (k : Int)) ((nNext s (k : Int) : Nat) : Int) ((s.size + 1 : Nat) : Int) (r : Int) false) (fun n => ?_) (inner _ 0 rfl (by omega)))
      · simp only [lightshiplaw16_ParseAll.l0]
        rw [if_pos (by omega), if_neg e1]
        simp only [parse_Next.f, if_pos (show s.size ≤ 140737488355328 by omega), Option.bind_some]
        rw [if_neg (by omega), show decide (((nNext s (k : Int) : Nat) : Int) > (s.size : Int)) = false by simp; omega]
      · simp only [lightshiplaw16_ParseAll.j2]
        rw [if_neg (by simp), if_neg (fun h => by have := (ba_nil _).1 h; omega)]
        rfl
    · have hp2 : wordsOf s 0 = pre ++ wordsOf s (nNext s (k : Int)) := by rw [hp, wordsOf_none hlt hw]
      have ih := l0_ev (nNext s (k : Int)) (r + 1) hle (by omega) _ hp2
      refine Ev.step (fun n => ?_) (Ev.step (g := fun n => lightshiplaw16_ParseAll.j2 n s t c (wordsOf s 0) (pre.length : Int) (nWord s (k : Int)) ((nNext s (k : Int) : Nat) : Int) ((s.size + 1 : Nat) : Int) (r : Int) false) (fun n => ?_) ih)
      · simp only [lightshiplaw16_ParseAll.l0]
        rw [if_pos (by omega), if_neg e1]
        simp only [parse_Next.f, if_pos (show s.size ≤ 140737488355328 by omega), Option.bind_some]
        rw [if_neg (by omega), show decide (((nNext s (k : Int) : Nat) : Int) > (s.size : Int)) = false by simp; omega]
      · simp only [lightshiplaw16_ParseAll.j2]
        rw [if_neg (by simp), if_pos ((ba_nil _).2 (by omega)), w64 (by omega)]
        norm_cast
  · have e : k = s.size := by omega
    subst e
    have hlen : pre.length = (wordsOf s 0).length := by rw [hp, wordsOf_end hlt, List.append_nil]
    rw [hlen]
    refine Ev.step (fun n => ?_) (j4_ev s t c hs ht hc)
    simp only [lightshiplaw16_ParseAll.l0]
    rw [if_pos (by omega), if_pos trivial]
termination_by s.size - k
end

theorem ParseAll : lightshiplaw16_ParseAll.Pure := by
  intro s t c hs0 ht0 hc
  have hc2 := wf_u8 hc
  have big : Ev (fun k => lightshiplaw16_ParseAll.j0 k s t c true) true := by
    refine Ev.step (fun k => ?_) (Ev.now true)
    simp only [lightshiplaw16_ParseAll.j0]
    rw [if_pos trivial, awake_true]; rfl
  refine Ev.rounds (g := fun k => lightshiplaw16_ParseAll.f k s t c) ?_
  unfold lightshiplaw16_ParseAll.f
  by_cases h1 : (s.size : Int) > 300
  · simp only [if_pos h1]; exact big
  · simp only [if_neg h1]
    by_cases h2 : (t.size : Int) > 300
    · simp only [decide_eq_true h2]; exact big
    · simp only [decide_eq_false h2]
      have h := l0_ev s t c (by omega) (by omega) hc2.1 0 0 (by omega) (by omega) [] rfl
      refine Ev.step (fun k => ?_) h
      simp only [lightshiplaw16_ParseAll.j0]
      rw [if_neg (by simp)]
      simp only [parse_Words.f, if_pos (show s.size ≤ 1048576 by omega), Option.bind_some]
      rw [w64 (by omega)]
      norm_cast
end Go.Proofs.Ytnlmndafmgkcfaa.Pure
