/- Plain facts for the pure statements of parse: the references' loops come to the same words; the chapter's examples hold. -/
import Derived.Test.YtnlmndafmgkcfaaPrint2
import Derived.Lib.Strings
import Derived.Lib.IndexBytes
namespace Go.Proofs.Ytnlmndafmgkcfaa.Pure
open Go.RowKit Go.Proofs.Ytnlmndafmgkcfaa Go.Proofs.Ytnlmndafmgkcfaa.Ext Go.Proofs.Ytnlmndafmgkcfaa.Print Go.Proofs.YtnlmndafmgkcfaaW.PrintWords Go.Proofs.YtnlmndafmgkcfaaW.PrintLast Go.Proofs.YtnlmndafmgkcfaaW.PrintMore

theorem ba_ext {a b : ByteArray} (h : a.data.toList = b.data.toList) : a = b := by
  cases a; cases b; simp at h; simp [h]
theorem ba_nil (s : ByteArray) : s.toList = [] ↔ s.size = 0 := by
  rw [Lib.toList_data]
  constructor
  · intro h; have := congrArg List.length h; simpa using this
  · intro h; apply List.eq_nil_of_length_eq_zero; simpa using h
theorem bt_eq {s : ByteArray} {i : Nat} (h : i < s.size) : bt s (i : Int) = (s[i].toNat : Int) := by simp [bt, h]
theorem ofNat_bt {s : ByteArray} {i : Nat} (h : i < s.size) : UInt8.ofNat (bt s (i : Int)).toNat = s[i] := by rw [bt_eq h]; simp
theorem one_size (x : Int) : (strOfNums [x]).size = 1 := by rw [strOfNums_size]; rfl
theorem extract_cons {s : ByteArray} {i j : Nat} (h : i < j) (hj : j ≤ s.size) : s.extract i j = strOfNums [bt s (i : Int)] ++ s.extract (i + 1) j := by
  have hi : i < s.size := by omega
  apply ba_ext
  rw [Lib.extract_data, ByteArray.data_append, Array.toList_append, strOfNums_data, Lib.extract_data]
  simp only [List.map_cons, List.map_nil, ofNat_bt hi]
  have hl : i < s.data.toList.length := by simpa using hi
  rw [List.drop_eq_getElem_cons hl, show j - i = (j - (i + 1)) + 1 by omega, List.take_succ_cons]
  rfl
theorem extract_nil (s : ByteArray) (i : Nat) : s.extract i i = ⟨#[]⟩ := by
  apply ba_ext; rw [Lib.extract_data]; simp
theorem nil_size : (⟨#[]⟩ : ByteArray).size = 0 := rfl
theorem append_nil (s : ByteArray) : s ++ (⟨#[]⟩ : ByteArray) = s := by apply ba_ext; simp
theorem nil_append (s : ByteArray) : (⟨#[]⟩ : ByteArray) ++ s = s := by apply ba_ext; simp
theorem isBl_iff {s : ByteArray} {i : Nat} (h : i < s.size) : isBl s[i] = true ↔ bt s (i : Int) ≤ 32 := by rw [bt_eq h]; simp [isBl]
theorem w64 {x : Int} (h : -9223372036854775808 ≤ x ∧ x ≤ 9223372036854775807) : wrap64 x = x := by unfold wrap64; omega

theorem wf_u8 {c : Int} (h : (Lit.int .u8 c).wf = true) : 0 ≤ c ∧ c ≤ 255 := by
  simp [Lit.wf, IntKind.min, IntKind.max, IntKind.signed, IntKind.bits] at h; omega
theorem wf_u16 {c : Int} (h : (Lit.int .u16 c).wf = true) : 0 ≤ c ∧ c ≤ 65535 := by
  simp [Lit.wf, IntKind.min, IntKind.max, IntKind.signed, IntKind.bits] at h; omega
theorem wf_i64 {c : Int} (h : (Lit.int .i64 c).wf = true) : -9223372036854775808 ≤ c ∧ c ≤ 9223372036854775807 := by
  simp [Lit.wf, IntKind.min, IntKind.max, IntKind.signed, IntKind.bits] at h; omega
theorem place_ev (s : ByteArray) (a : Int) : lightshipref16_place.f s a = some ((placeI s.size a : Nat) : Int) := by
  unfold lightshipref16_place.f placeI
  split
  · congr 1; omega
  · split <;> (congr 1; omega)

/-- in a word: on to its end. -/
theorem refWord_ev (s : ByteArray) (hs : s.size ≤ 1048576) (i : Nat) (hi : i ≤ s.size) (acc : ByteArray) (ha : acc.size ≠ 0) (hb : acc.size ≤ i) :
    Ev (fun k => lightshipref16_Next.l0 k s (i : Int) acc) (acc ++ s.extract i (wend s i), ((min (wend s i + 1) s.size : Nat) : Int)) := by
  by_cases hlt : i < s.size
  · cases hbl : isBl s[i]
    · have h32 : bt s (i : Int) > 32 := by have := isBl_iff hlt; rw [hbl] at this; simp at this; omega
      have ih := refWord_ev s hs (i + 1) (by omega) (acc ++ strOfNums [bt s (i : Int)]) (by rw [ByteArray.size_append, one_size]; omega) (by rw [ByteArray.size_append, one_size]; omega)
      rw [wend_step hlt hbl]
      have hw := wend_ge s (i + 1)
      have hw2 := wend_le s (i + 1) (by omega)
      rw [extract_cons (show i < wend s (i + 1) by omega) hw2, ← ByteArray.append_assoc]
      refine Ev.step (fun k => ?_) ih
      simp only [lightshipref16_Next.l0]
      rw [if_pos (by omega), if_pos (by omega), if_pos h32]
      simp only [Option.bind_some]
      rw [if_pos (by rw [one_size]; omega), w64 (by omega)]
      norm_cast
    · have h32 : ¬ bt s (i : Int) > 32 := by have := isBl_iff hlt; rw [hbl] at this; simp at this; omega
      rw [wend_stop hlt hbl, extract_nil, append_nil]
      refine Ev.step (fun k => ?_) (Ev.now _)
      simp only [lightshipref16_Next.l0]
      rw [if_pos (by omega), if_pos (by omega), if_neg h32, if_neg (fun h => ha ((ba_nil acc).1 h)), w64 (by omega)]
      congr 2
      omega
  · rw [wend_end hlt, extract_nil, append_nil]
    refine Ev.step (fun k => ?_) (Ev.now _)
    simp only [lightshipref16_Next.l0]
    rw [if_neg (by omega)]
    congr 2
    omega
termination_by s.size - i

theorem nFrom_nat {s : ByteArray} {i : Nat} (h : i ≤ s.size) : nFrom s (i : Int) = skp s i := by unfold nFrom; rw [placeI_nat h]

theorem refNext0_ev (s : ByteArray) (hs : s.size ≤ 1048576) (i : Nat) (hi : i ≤ s.size) :
    Ev (fun k => lightshipref16_Next.l0 k s (i : Int) (⟨#[]⟩ : ByteArray)) (nWord s (i : Int), ((nNext s (i : Int) : Nat) : Int)) := by
  by_cases hlt : i < s.size
  · cases hbl : isBl s[i]
    · have h32 : bt s (i : Int) > 32 := by have := isBl_iff hlt; rw [hbl] at this; simp at this; omega
      have ih := refWord_ev s hs (i + 1) (by omega) ((⟨#[]⟩ : ByteArray) ++ strOfNums [bt s (i : Int)]) (by rw [ByteArray.size_append, one_size]; omega) (by rw [ByteArray.size_append, one_size, nil_size]; omega)
      have hF : nFrom s (i : Int) = i := by rw [nFrom_nat hi, skp_stop hlt hbl]
      have hT : nTo s (i : Int) = wend s (i + 1) := by unfold nTo; rw [hF, wend_step hlt hbl]
      have hw := wend_ge s (i + 1)
      have hw2 := wend_le s (i + 1) (by omega)
      unfold nWord nNext
      rw [hF, hT, extract_cons (show i < wend s (i + 1) by omega) hw2]
      rw [nil_append] at ih
      refine Ev.step (fun k => ?_) ih
      simp only [lightshipref16_Next.l0]
      rw [if_pos (by omega), if_pos (by omega), if_pos h32]
      simp only [Option.bind_some]
      rw [if_pos (by rw [one_size, nil_size]; omega), w64 (by omega), nil_append]
      norm_cast
    · have h32 : ¬ bt s (i : Int) > 32 := by have := isBl_iff hlt; rw [hbl] at this; simp at this; omega
      have ih := refNext0_ev s hs (i + 1) (by omega)
      have hF : nFrom s ((i + 1 : Nat) : Int) = nFrom s (i : Int) := by rw [nFrom_nat (by omega), nFrom_nat hi, skp_step hlt hbl]
      have hT : nTo s ((i + 1 : Nat) : Int) = nTo s (i : Int) := by unfold nTo; rw [hF]
      unfold nWord nNext at ih ⊢
      rw [hF, hT] at ih
      refine Ev.step (fun k => ?_) ih
      simp only [lightshipref16_Next.l0]
      rw [if_pos (by omega), if_pos (by omega), if_neg h32, if_pos ((ba_nil _).2 rfl), w64 (by omega)]
      norm_cast
  · have hF : nFrom s (i : Int) = i := by rw [nFrom_nat hi, skp_end hlt]
    have hT : nTo s (i : Int) = i := by unfold nTo; rw [hF, wend_end hlt]
    unfold nWord nNext
    rw [hF, hT, extract_nil]
    refine Ev.step (fun k => ?_) (Ev.now _)
    simp only [lightshipref16_Next.l0]
    rw [if_neg (by omega)]
    congr 2
    omega
termination_by s.size - i

theorem nWord_place (s : ByteArray) (a : Int) : nWord s ((placeI s.size a : Nat) : Int) = nWord s a ∧ nNext s ((placeI s.size a : Nat) : Int) = nNext s a := by
  have h : nFrom s ((placeI s.size a : Nat) : Int) = nFrom s a := by rw [nFrom_nat (placeI_le _ _)]; rfl
  have h2 : nTo s ((placeI s.size a : Nat) : Int) = nTo s a := by unfold nTo; rw [h]
  unfold nWord nNext
  rw [h, h2]; exact ⟨rfl, rfl⟩

theorem refNext_ev (s : ByteArray) (hs : s.size ≤ 1048576) (a : Int) : Ev (fun k => lightshipref16_Next.f k s a) (nWord s a, ((nNext s a : Nat) : Int)) := by
  have h := refNext0_ev s hs (placeI s.size a) (placeI_le _ _)
  rw [(nWord_place s a).1, (nWord_place s a).2] at h
  refine Ev.congr (fun k => ?_) h
  simp only [lightshipref16_Next.f, place_ev, Option.bind_some]


/-! ### lists of texts -/
theorem texts_ev (l : List ByteArray) (hl : l.length ≤ 4194304) (i : Nat) (hi : i ≤ l.length) : Ev (fun k => lightshiplaw16_texts.l0 k l l (l.length : Int) (i : Int)) true := by
  by_cases hlt : i < l.length
  · have ih := texts_ev l hl (i + 1) (by omega)
    refine Ev.step (fun k => ?_) ih
    simp only [lightshiplaw16_texts.l0]
    rw [if_pos (by omega), if_pos (by omega), if_pos (by omega), if_pos (by omega), if_pos trivial, w64 (by omega)]
    norm_cast
  · refine Ev.step (fun k => ?_) (Ev.now _)
    simp only [lightshiplaw16_texts.l0]
    rw [if_neg (by omega)]
termination_by l.length - i
theorem textsF_ev (l : List ByteArray) (hl : l.length ≤ 4194304) : Ev (fun k => lightshiplaw16_texts.f k l l) true := by
  refine Ev.congr (fun k => ?_) (texts_ev l hl 0 (by omega))
  simp only [lightshiplaw16_texts.f]
  rw [if_pos trivial]; rfl

theorem refWords_ev (s : ByteArray) (hs : s.size ≤ 1048576) (i : Nat) (hi : i ≤ s.size) (acc : List ByteArray) (ha : acc.length ≤ i) :
    Ev (fun k => lightshipref16_Words.l0 k s acc (i : Int)) (acc ++ wordsOf s i) := by
  by_cases hlt : i < s.size
  · have hgt := nNext_gt s i hlt
    have hle := nNext_le s (i : Int)
    have hN := refNext_ev s hs (i : Int)
    have hsz := nWord_size s (i : Int)
    by_cases hw : nFrom s (i : Int) < nTo s (i : Int)
    · have ih := refWords_ev s hs (nNext s (i : Int)) hle (acc ++ [nWord s (i : Int)]) (by simp; omega)
      rw [wordsOf_word hlt hw]
      rw [List.append_assoc] at ih
      refine Ev.step (f := fun k => (lightshipref16_Next.f k s (i : Int)).bind fun bt130 => (if bt130.1.toList = ([] : List UInt8) then (lightshipref16_Words.l0 k s acc bt130.2) else (if acc.length < 8796093022208 then (lightshipref16_Words.l0 k s (acc ++ [bt130.1]) bt130.2) else (none)))) (fun k => ?_) (Ev.bind hN ?_)
      · simp only [lightshipref16_Words.l0]; rw [if_pos (by omega)]
      · refine Ev.congr (fun k => ?_) ih
        rw [if_neg (fun h => by have := (ba_nil _).1 h; dsimp only at this; omega), if_pos (by omega)]
    · have ih := refWords_ev s hs (nNext s (i : Int)) hle acc (by omega)
      rw [wordsOf_none hlt hw]
      refine Ev.step (f := fun k => (lightshipref16_Next.f k s (i : Int)).bind fun bt130 => (if bt130.1.toList = ([] : List UInt8) then (lightshipref16_Words.l0 k s acc bt130.2) else (if acc.length < 8796093022208 then (lightshipref16_Words.l0 k s (acc ++ [bt130.1]) bt130.2) else (none)))) (fun k => ?_) (Ev.bind hN ?_)
      · simp only [lightshipref16_Words.l0]; rw [if_pos (by omega)]
      · refine Ev.congr (fun k => ?_) ih
        rw [if_pos ((ba_nil _).2 (by dsimp only; omega))]
  · rw [wordsOf_end hlt, List.append_nil]
    refine Ev.step (fun k => ?_) (Ev.now _)
    simp only [lightshipref16_Words.l0]
    rw [if_neg (by omega)]
termination_by s.size - i
theorem refWordsF_ev (s : ByteArray) (hs : s.size ≤ 1048576) : Ev (fun k => lightshipref16_Words.f k s) (wordsOf s 0) :=
  refWords_ev s hs 0 (by omega) [] (by simp)

/-! ### texts up to a byte -/
/-- where the first byte c from place i on stands (the line's end: nowhere). -/
def upTo (s : ByteArray) (c : Int) (i : Nat) : Nat := if h : i < s.size then (if bt s (i : Int) = c then i else upTo s c (i + 1)) else i
termination_by s.size - i
theorem upTo_step {s : ByteArray} {c : Int} {i : Nat} (h : i < s.size) (hb : bt s (i : Int) ≠ c) : upTo s c i = upTo s c (i + 1) := by rw [upTo, dif_pos h, if_neg hb]
theorem upTo_stop {s : ByteArray} {c : Int} {i : Nat} (h : i < s.size) (hb : bt s (i : Int) = c) : upTo s c i = i := by rw [upTo, dif_pos h, if_pos hb]
theorem upTo_end {s : ByteArray} {c : Int} {i : Nat} (h : ¬ i < s.size) : upTo s c i = i := by rw [upTo, dif_neg h]
theorem upTo_ge (s : ByteArray) (c : Int) (i : Nat) : i ≤ upTo s c i := by fun_induction upTo s c i <;> omega
theorem upTo_le (s : ByteArray) (c : Int) (i : Nat) (h : i ≤ s.size) : upTo s c i ≤ s.size := by fun_induction upTo s c i <;> omega
theorem upTo_at (s : ByteArray) (c : Int) (i : Nat) (h : upTo s c i < s.size) : bt s (upTo s c i : Int) = c := by
  fun_induction upTo s c i with
  | case1 => assumption
  | case2 i hi hb ih => exact ih h
  | case3 => omega
theorem upTo_before (s : ByteArray) (c : Int) (i j : Nat) (h : i ≤ j) (hj : j < upTo s c i) : bt s (j : Int) ≠ c := by
  fun_induction upTo s c i with
  | case1 => omega
  | case2 i hi hb ih =>
    by_cases e : i = j
    · subst e; exact hb
    · exact ih (by omega) hj
  | case3 => omega

theorem refUntil_ev (s : ByteArray) (hs : s.size ≤ 1048576) (c : Int) (i : Nat) (hi : i ≤ s.size) (acc : ByteArray) (hb : acc.size ≤ i) :
    Ev (fun k => lightshipref16_Until.l0 k s (i : Int) c acc) (acc ++ s.extract i (upTo s c i), ((min (upTo s c i + 1) s.size : Nat) : Int), decide (upTo s c i < s.size)) := by
  by_cases hlt : i < s.size
  · by_cases hc : bt s (i : Int) = c
    · rw [upTo_stop hlt hc, extract_nil, append_nil, decide_eq_true hlt]
      refine Ev.step (fun k => ?_) (Ev.now _)
      simp only [lightshipref16_Until.l0]
      rw [if_pos (by omega), if_pos (by omega), if_pos hc, w64 (by omega)]
      congr 3
      omega
    · have ih := refUntil_ev s hs c (i + 1) (by omega) (acc ++ strOfNums [bt s (i : Int)]) (by rw [ByteArray.size_append, one_size]; omega)
      have hw := upTo_ge s c (i + 1)
      have hw2 := upTo_le s c (i + 1) (by omega)
      rw [upTo_step hlt hc, extract_cons (show i < upTo s c (i + 1) by omega) hw2, ← ByteArray.append_assoc]
      refine Ev.step (fun k => ?_) ih
      simp only [lightshipref16_Until.l0]
      rw [if_pos (by omega), if_pos (by omega), if_neg hc]
      simp only [Option.bind_some]
      rw [if_pos (by rw [one_size]; omega), w64 (by omega)]
      norm_cast
  · rw [upTo_end hlt, extract_nil, append_nil, decide_eq_false hlt]
    refine Ev.step (fun k => ?_) (Ev.now _)
    simp only [lightshipref16_Until.l0]
    rw [if_neg (by omega)]
    congr 3
    omega
termination_by s.size - i
def uText (s : ByteArray) (a c : Int) : ByteArray := s.extract (placeI s.size a) (upTo s c (placeI s.size a))
def uEnd (s : ByteArray) (a c : Int) : Nat := upTo s c (placeI s.size a)
theorem refUntilF_ev (s : ByteArray) (hs : s.size ≤ 1048576) (a c : Int) :
    Ev (fun k => lightshipref16_Until.f k s a c) (uText s a c, ((min (uEnd s a c + 1) s.size : Nat) : Int), decide (uEnd s a c < s.size)) := by
  have h := refUntil_ev s hs c (placeI s.size a) (placeI_le _ _) ⟨#[]⟩ (by rw [nil_size]; omega)
  rw [nil_append] at h
  refine Ev.congr (fun k => ?_) h
  simp only [lightshipref16_Until.f, place_ev, Option.bind_some]


theorem index_eq (s : ByteArray) (c : Int) (h0 : 0 ≤ c) (h1 : c ≤ 255) (i : Nat) :
    Lib.indexByte (s.data.toList.drop i) c.toNat.toUInt8 = if upTo s c i < s.size then (upTo s c i : Int) - i else -1 := by
  by_cases hlt : i < s.size
  · have hl : i < s.data.toList.length := by simpa using hlt
    rw [List.drop_eq_getElem_cons hl]
    have he : s.data.toList[i] = s[i] := by simp [ByteArray.getElem_eq_getElem_data]
    have hc : (s[i] == c.toNat.toUInt8) = decide (bt s (i : Int) = c) := by
      rw [bt_eq hlt, Bool.eq_iff_iff, beq_iff_eq, decide_eq_true_iff]
      have hn : c.toNat.toUInt8.toNat = c.toNat := by simp [Nat.toUInt8]; omega
      constructor
      · intro h; rw [h, hn]; omega
      · intro h; apply UInt8.toNat_inj.1; rw [hn]; omega
    unfold Lib.indexByte
    rw [he, hc]
    by_cases hb : bt s (i : Int) = c
    · rw [decide_eq_true hb, upTo_stop hlt hb, if_pos hlt]; simp
    · have ih := index_eq s c h0 h1 (i + 1)
      rw [decide_eq_false hb, upTo_step hlt hb, ih]
      have := upTo_ge s c (i + 1)
      by_cases hu : upTo s c (i + 1) < s.size
      · rw [if_pos hu]
        simp only [Bool.false_eq_true, if_false, beq_iff_eq]
        rw [if_neg (by omega), if_pos hu]
        omega
      · rw [if_neg hu, if_neg hu]; simp
  · rw [List.drop_eq_nil_of_le (by simpa using hlt), upTo_end hlt, if_neg hlt]; rfl
termination_by s.size - i

theorem mnmx (n : Nat) (a : Int) : mn (mx a 0) (n : Int) = ((placeI n a : Nat) : Int) := by
  unfold mn mx placeI
  split <;> split <;> omega

def uNext (s : ByteArray) (a c : Int) : Nat := min (uEnd s a c + 1) s.size
theorem until_eq (s : ByteArray) (hs : s.size ≤ 140737488355328) (a c : Int) (h0 : 0 ≤ c) (h1 : c ≤ 255) :
    parse_Until.f s a c = some (uText s a c, ((uNext s a c : Nat) : Int), decide (uEnd s a c < s.size)) := by
  have hK := placeI_le s.size a
  unfold parse_Until.f parse_within.f
  rw [mnmx]
  generalize hk : placeI s.size a = K at *
  have h2 : uText s a c = s.extract K (upTo s c K) := by unfold uText; rw [hk]
  have h3 : uEnd s a c = upTo s c K := by unfold uEnd; rw [hk]
  simp only [Option.bind_some]
  rw [if_pos (by omega), if_pos (by omega)]
  unfold strings_IndexByte.f
  simp only [Option.bind_some, Int.toNat_natCast]
  rw [Lib.extract_to_end, index_eq s c h0 h1 K, h2, h3]
  unfold uNext
  rw [h3]
  have hg := upTo_ge s c K
  have hl := upTo_le s c K hK
  by_cases hu : upTo s c K < s.size
  · rw [if_pos hu, if_neg (by omega), w64 (by omega), if_pos (by omega), if_pos (by omega), decide_eq_true hu, w64 (by omega)]
    rw [show ((K : Int) + ((upTo s c K : Int) - K)).toNat = upTo s c K by omega]
    congr 3
    omega
  · have e : upTo s c K = s.size := by omega
    rw [if_neg hu, if_pos (by omega), decide_eq_false hu, e]
    congr 3
    omega

/-! ### the chapter's examples -/
theorem skp_is {s : ByteArray} {i j : Nat} (hij : i ≤ j) (hj : j ≤ s.size) (hb : ∀ k, i ≤ k → k < j → bt s (k : Int) ≤ 32) (he : j < s.size → ¬ bt s (j : Int) ≤ 32) : skp s i = j := by
  by_cases e : i = j
  · subst e
    by_cases hlt : i < s.size
    · exact skp_stop hlt (by cases h : isBl s[i]; rfl; exact absurd ((isBl_iff hlt).1 h) (he hlt))
    · exact skp_end hlt
  · have hlt : i < s.size := by omega
    rw [skp_step hlt ((isBl_iff hlt).2 (hb i (Nat.le_refl _) (by omega)))]
    exact skp_is (by omega) hj (fun k h1 h2 => hb k (by omega) h2) he
termination_by j - i
theorem wend_is {s : ByteArray} {i j : Nat} (hij : i ≤ j) (hj : j ≤ s.size) (hb : ∀ k, i ≤ k → k < j → ¬ bt s (k : Int) ≤ 32) (he : j < s.size → bt s (j : Int) ≤ 32) : wend s i = j := by
  by_cases e : i = j
  · subst e
    by_cases hlt : i < s.size
    · exact wend_stop hlt ((isBl_iff hlt).2 (he hlt))
    · exact wend_end hlt
  · have hlt : i < s.size := by omega
    rw [wend_step hlt (by cases h : isBl s[i]; rfl; exact absurd ((isBl_iff hlt).1 h) (hb i (Nat.le_refl _) (by omega)))]
    exact wend_is (by omega) hj (fun k h1 h2 => hb k (by omega) h2) he
termination_by j - i
theorem upTo_is {s : ByteArray} {c : Int} {i j : Nat} (hij : i ≤ j) (hj : j ≤ s.size) (hb : ∀ k, i ≤ k → k < j → bt s (k : Int) ≠ c) (he : j < s.size → bt s (j : Int) = c) : upTo s c i = j := by
  by_cases e : i = j
  · subst e
    by_cases hlt : i < s.size
    · exact upTo_stop hlt (he hlt)
    · exact upTo_end hlt
  · have hlt : i < s.size := by omega
    rw [upTo_step hlt (hb i (Nat.le_refl _) (by omega))]
    exact upTo_is (by omega) hj (fun k h1 h2 => hb k (by omega) h2) he
termination_by j - i
/-- the first word by its two places. -/
theorem next_is (s : ByteArray) (a f t : Nat) (ha : a ≤ f) (hft : f ≤ t) (ht : t ≤ s.size) (h1 : ∀ k, a ≤ k → k < f → bt s (k : Int) ≤ 32) (h2 : f < s.size → ¬ bt s (f : Int) ≤ 32)
    (h3 : ∀ k, f ≤ k → k < t → ¬ bt s (k : Int) ≤ 32) (h4 : t < s.size → bt s (t : Int) ≤ 32) (hs : s.size ≤ 140737488355328) :
    parse_Next.f s (a : Int) = some (s.extract f t, ((min (t + 1) s.size : Nat) : Int)) := by
  have hF : nFrom s (a : Int) = f := by rw [nFrom_nat (by omega)]; exact skp_is ha (by omega) h1 h2
  have hT : nTo s (a : Int) = t := by unfold nTo; rw [hF]; exact wend_is hft ht h3 h4
  unfold parse_Next.f
  rw [if_pos hs]
  unfold nWord nNext
  rw [hF, hT]
theorem swp {i j : Nat} {P : Nat → Prop} (h : ∀ k, k < j → i ≤ k → P k) : ∀ k, i ≤ k → k < j → P k := fun k a b => h k b a
abbrev l1 : ByteArray := ⟨#[32, 100, 117, 112, 32, 32, 100, 114, 111, 112]⟩
abbrev l2 : ByteArray := ⟨#[97, 98, 99, 41, 32, 100]⟩
theorem awake_true : lightshiplaw16_awake.f = some true := by
  have e1 := next_is l1 0 1 4 (by decide) (by decide) (by decide) (swp (by decide)) (by decide) (swp (by decide)) (by decide) (by decide)
  have e2 := next_is l1 5 6 10 (by decide) (by decide) (by decide) (swp (by decide)) (by decide) (swp (by decide)) (by decide) (by decide)
  have e3 := next_is l1 10 10 10 (by decide) (by decide) (by decide) (swp (by decide)) (by decide) (swp (by decide)) (by decide) (by decide)
  have u1 : upTo l2 41 1 = 3 := upTo_is (by decide) (by decide) (swp (by decide)) (by decide)
  have u2 : upTo l2 41 4 = 6 := upTo_is (by decide) (by decide) (swp (by decide)) (by decide)
  have e4 := until_eq l2 (by decide) 1 41 (by decide) (by decide)
  have e5 := until_eq l2 (by decide) 4 41 (by decide) (by decide)
  have p1 : placeI l2.size 1 = 1 := by decide
  have p2 : placeI l2.size 4 = 4 := by decide
  simp only [uText, uNext, uEnd, p1, p2, u1, u2] at e4 e5
  have hF : nFrom (⟨#[32, 9, 32]⟩ : ByteArray) ((0 : Nat) : Int) = 3 := by rw [nFrom_nat (by decide)]; exact skp_is (by decide) (by decide) (swp (by decide)) (by decide)
  have hT : nTo (⟨#[32, 9, 32]⟩ : ByteArray) ((0 : Nat) : Int) = 3 := by unfold nTo; rw [hF]; exact wend_is (by decide) (by decide) (swp (by decide)) (by decide)
  have hw : wordsOf (⟨#[32, 9, 32]⟩ : ByteArray) 0 = [] := by
    rw [wordsOf_none (by decide) (by rw [hF, hT]; decide)]
    exact wordsOf_end (by unfold nNext; rw [hT]; decide)
  unfold lightshiplaw16_awake.f
  rw [show parse_Next.f l1 0 = _ from e1, show parse_Next.f l1 5 = _ from e2, show parse_Next.f l1 10 = _ from e3, show parse_Until.f l2 1 41 = _ from e4, show parse_Until.f l2 4 41 = _ from e5]
  simp only [Option.bind_some, parse_Words.f, hw, Lib.toList_data, Lib.extract_data]
  decide
end Go.Proofs.Ytnlmndafmgkcfaa.Pure
