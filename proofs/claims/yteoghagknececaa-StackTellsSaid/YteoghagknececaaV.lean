/- The stack's methods, each by what it answers, as the document's answer is given. -/
import Derived.Test.YteoghagknececaaU
import Derived.Test.YteoghagknececaaH
namespace Go.Proofs.Yteoghagknececaa
open Go.RowKit Go.Proofs.YteoghagknececaaW.PrintWords Go.Proofs.YteoghagknececaaW.PrintMore
open Go.Proofs.YteoghagknececaaW.PrintLast

def St.popR (s : St) : St := { s with cells := s.cells.dropLast }
theorem At.refl (A : Option Addr) (n : Nat) : At A A n := .inl rfl

section
variable {B : Nat} {W : World} {p : Nat} {A : Option Addr} {c : Nat} {s s' : St} {r x : Int}
theorem St.few_is (hf : s.Fine) : s.few = s.under := by
  have := hf.most1
  unfold St.few; rw [if_neg (by omega)]
theorem push_is (h : Stk B W p A c s) (hf : s.Fine) (hB : B ≤ W.heap.size) {X : Option Addr} {m cx : Nat} {ys : List Int} (hX : Src W X cx ys) (hm : ys.length = m) (hm2 : m ≤ 100) (hr : s.pushR ys = (s', r)) :
    Calls Try.prog 13 #[ptr p, .slice X m cx] W fun e W' => e = .returned (.int .i32 r) ∧ Chg (Foot p A) W W' ∧ ∃ A' c', Stk B W' p A' c' s' ∧ At A' A W.heap.size := by
  have h1 := hf.most1
  have h2 := hf.most2
  have h3 := hf.len
  have h4 := hf.over
  have hmay : s.may 0 m = if (ys.length : Int) > s.most - s.cells.length then s.over else 0 := by
    unfold St.may mx
    rw [if_neg (by omega), hm]
    have : (if (m : Int) > 0 then (m : Int) else 0) = m := by split <;> omega
    simp only [Int.lt_irrefl, if_false, Int.sub_zero]
    repeat' split
    all_goals first | rfl | (exfalso; omega)
  unfold St.pushR at hr
  split at hr
  · rename_i hc
    injection hr with e1 e2
    subst e1 e2
    rw [if_pos hc] at hmay
    refine (push_no h X m cx _ (by omega) hmay (by omega)).mono ?_
    rintro e w' ⟨rfl, rfl⟩
    exact ⟨rfl, Chg.refl _ _, A, c, h, At.refl _ _⟩
  · rename_i hc
    injection hr with e1 e2
    subst e1 e2
    rw [if_neg hc] at hmay
    exact push_yes h hB X m cx ys _ hm hX hmay (by omega) rfl
theorem roll_is (h : Stk B W p A c s) (hf : s.Fine) (hB : B ≤ W.heap.size) (i : Int) (hr : s.rollR i = (s', r)) :
    Calls Try.prog 18 #[ptr p, .int .i64 i] W fun e W' => e = .returned (.int .i32 r) ∧ Chg (Foot p A) W W' ∧ ∃ A' c', Stk B W' p A' c' s' ∧ At A' A W.heap.size := by
  unfold St.rollR at hr
  split at hr
  · rename_i hc
    injection hr with e1 e2
    subst e1 e2
    refine (roll_no h i _ hc (St.few_is hf)).mono ?_
    rintro e w' ⟨rfl, rfl⟩
    exact ⟨rfl, Chg.refl _ _, A, c, h, At.refl _ _⟩
  · rename_i hc
    injection hr with e1 e2
    subst e1 e2
    have := roll_yes h hB i.toNat _ (by omega) rfl
    rwa [show ((i.toNat : Nat) : Int) = i by omega] at this
theorem cut_is (h : Stk B W p A c s) (hf : s.Fine) (i : Int) (hr : s.cutR i = (s', r)) :
    Calls Try.prog 20 #[ptr p, .int .i64 i] W fun e W' => e = .returned (.int .i32 r) ∧ Chg (Foot p A) W W' ∧ ∃ A' c', Stk B W' p A' c' s' ∧ At A' A W.heap.size := by
  have h1 := hf.most1
  unfold St.cutR at hr
  split at hr
  · rename_i hc
    injection hr with e1 e2
    subst e1 e2
    refine (cut_no h i _ (by omega) (St.few_is hf)).mono ?_
    rintro e w' ⟨rfl, rfl⟩
    exact ⟨rfl, Chg.refl _ _, A, c, h, At.refl _ _⟩
  · rename_i hc
    injection hr with e1 e2
    subst e1 e2
    have := cut_yes h i.toNat _ (by omega) (by omega) rfl
    rw [show ((i.toNat : Nat) : Int) = i by omega] at this
    refine this.mono ?_
    rintro e w' ⟨rfl, h5, h6⟩
    exact ⟨rfl, h6.foot1, A, c, h5, At.refl _ _⟩
theorem peek_is (h : Stk B W p A c s) (hf : s.Fine) (i : Int) (hr : s.peekR i = (x, r)) :
    Calls Try.prog 21 #[ptr p, .int .i64 i] W fun e W' => e = .returned (.tuple #[.int .u32 x, .int .i32 r]) ∧ W = W' := by
  unfold St.peekR at hr
  split at hr
  · rename_i hc
    injection hr with e1 e2
    subst e1 e2
    exact peek_no h i _ hc (St.few_is hf)
  · rename_i hc
    injection hr with e1 e2
    subst e1 e2
    refine peek_ok h i (s.cells.length - 1 - i.toNat) _ (by omega) (by omega) ?_
    rw [List.getD_eq_getElem?_getD, List.getElem?_eq_getElem (by omega)]
    rfl
theorem pop_is (h : Stk B W p A c s) (hf : s.Fine) (hr : s.peekR 0 = (x, r)) :
    Calls Try.prog 15 #[ptr p] W fun e W' => e = .returned (.tuple #[.int .u32 x, .int .i32 r]) ∧ Chg (Foot p A) W W' ∧ ∃ A' c', Stk B W' p A' c' s.popR ∧ At A' A W.heap.size := by
  unfold St.peekR at hr
  split at hr
  · rename_i hc
    injection hr with e1 e2
    subst e1 e2
    have h0 : s.cells = [] := List.eq_nil_of_length_eq_zero (by omega)
    have h1 : s.popR = s := by unfold St.popR; rw [h0]; cases s; simp_all
    refine (pop_no h _ h0 (St.few_is hf)).mono ?_
    rintro e w' ⟨rfl, rfl⟩
    exact ⟨rfl, Chg.refl _ _, A, c, by rwa [h1], At.refl _ _⟩
  · rename_i hc
    injection hr with e1 e2
    subst e1 e2
    have hne : s.cells ≠ [] := by intro h0; rw [h0] at hc; simp at hc
    have hx : s.cells = s.cells.dropLast ++ [s.cells.getD (s.cells.length - 1 - (0 : Int).toNat) 0] := by
      have h5 := List.dropLast_concat_getLast hne
      rw [List.getD_eq_getElem?_getD, show s.cells.length - 1 - (0 : Int).toNat = s.cells.length - 1 by simp, ← List.getLast?_eq_getElem?, List.getLast?_eq_some_getLast hne]
      exact h5.symm
    refine (pop_ok h _ _ hx).mono ?_
    rintro e w' ⟨rfl, h5, h6⟩
    exact ⟨rfl, h6.foot1, A, c, h5, At.refl _ _⟩
end
theorem erase_step (l : List Int) (pl j : Nat) (hj : j < l.length) (hne : j ≠ pl) : (l.take (j + 1)).eraseIdx pl = (l.take j).eraseIdx pl ++ [l.getD j 0] := by
  have hg : l.getD j 0 = l[j] := by rw [List.getD_eq_getElem?_getD, List.getElem?_eq_getElem hj]; rfl
  rw [hg, List.take_succ_eq_append_getElem hj]
  rcases Nat.lt_or_ge pl j with h | h
  · rw [List.eraseIdx_append_of_lt_length (by rw [List.length_take]; omega)]
  · rw [List.eraseIdx_of_length_le (by rw [List.length_append, List.length_take, List.length_singleton]; omega), List.eraseIdx_of_length_le (by rw [List.length_take]; omega)]
theorem erase_skip (l : List Int) (pl : Nat) (hj : pl < l.length) : (l.take (pl + 1)).eraseIdx pl = (l.take pl).eraseIdx pl := by
  have h : (l.take pl).length = pl := by rw [List.length_take]; omega
  rw [List.take_succ_eq_append_getElem hj, List.eraseIdx_append_of_length_le (by omega), h, Nat.sub_self, List.eraseIdx_cons_zero, List.append_nil, List.eraseIdx_of_length_le (by omega)]
open PStackTells in
theorem roll_l0 (l : List Int) (i : Nat) (x m o u : Int) (hi : i < l.length) (hl : l.length ≤ 5000) : ∀ (d j k : Nat), l.length - j = d → j ≤ l.length → d < k →
    lightshipref08_Stack_Roll.l0 k i x ((l.take j).eraseIdx (l.length - 1 - i)) j l m o u = some (l.eraseIdx (l.length - 1 - i) ++ [x], m, o, u, 0)
  | d, j, 0, hd, hj, hk => by omega
  | d, j, k + 1, hd, hj, hk => by
    have e1 : wrap64 ((l.length : Int) - 1) = (l.length : Int) - 1 := w64_in _ (by omega)
    have e2 : wrap64 ((l.length : Int) - 1 - i) = (l.length : Int) - 1 - i := w64_in _ (by omega)
    have e3 : wrap64 ((j : Int) + 1) = ((j + 1 : Nat) : Int) := (w64_in _ (by omega)).trans (by omega)
    rw [lightshipref08_Stack_Roll.l0, e1, e2, e3]
    by_cases h1 : j < l.length
    · rw [if_pos (by omega)]
      by_cases h2 : j = l.length - 1 - i
      · rw [if_pos (by omega)]
        have := roll_l0 l i x m o u hi hl (d - 1) (j + 1) k (by omega) (by omega) (by omega)
        rw [← this]
        have h3 := erase_skip l j h1
        rw [h2] at h3 ⊢
        rw [h3]
      · rw [if_neg (by omega), if_pos (by omega)]
        have h4 : ((l.take j).eraseIdx (l.length - 1 - i)).length ≤ 5000 := Nat.le_trans (List.length_eraseIdx_le _ _) (by rw [List.length_take]; omega)
        rw [if_pos (by omega)]
        have := roll_l0 l i x m o u hi hl (d - 1) (j + 1) k (by omega) (by omega) (by omega)
        rw [erase_step l _ j h1 h2] at this
        rw [← this]
        rfl
    · have h4 : ((l.take j).eraseIdx (l.length - 1 - i)).length ≤ 5000 := Nat.le_trans (List.length_eraseIdx_le _ _) (by rw [List.length_take]; omega)
      rw [if_neg (by omega), if_pos (by omega), List.take_of_length_le (by omega)]
section
variable {W0 W : World} {A : Option Addr} {c : Nat} {s s' : St} {r x : Int}
open PStackTells in
theorem rroll_is (h : Rs W0 W A c s) (hf : s.Fine) (n : Int) (hr : s.rollR n = (s', r)) :
    Calls Try.prog 19 #[agg A c s, .int .i64 n] W fun e w' => ∃ A' c', e = .returned (.tuple #[agg A' c' s', .int .i32 r]) ∧ Rs W0 w' A' c' s' ∧ Chg (fun k => (Value.slice A 0 0).ownBlock = some k) W w' ∧ ∀ k, (Value.slice A' 0 0).ownBlock = some k → (Value.slice A 0 0).ownBlock = some k ∨ W.heap.size ≤ k := by
  have h2 := hf.most2
  have h3 := hf.len
  have h4 := hf.under
  have hv : lightshipref08_Stack_Roll.f 5001 s.cells s.most s.over s.under n = some (s'.cells, s'.most, s'.over, s'.under, r) ∧ s'.cells.length ≤ 5000 := by
    unfold lightshipref08_Stack_Roll.f
    unfold St.rollR at hr
    split at hr
    · rename_i hc
      injection hr with e1 e2
      subst e1 e2
      rw [peek_f hf n (x := 0) (r := s.under) (by unfold St.peekR; rw [if_pos hc])]
      simp only [Option.bind_some]
      rw [if_neg (by omega)]
      exact ⟨rfl, h.small⟩
    · rename_i hc
      injection hr with e1 e2
      subst e1 e2
      obtain ⟨i, rfl⟩ : ∃ i : Nat, n = i := ⟨n.toNat, by omega⟩
      rw [peek_f hf i (x := s.cells.getD (s.cells.length - 1 - i) 0) (r := 0) (by unfold St.peekR; rw [if_neg hc]; rfl)]
      simp only [Option.bind_some, if_true]
      have h5 := roll_l0 s.cells i (s.cells.getD (s.cells.length - 1 - i) 0) s.most s.over s.under (by omega) h.small s.cells.length 0 5001 (by omega) (by omega) (by have := h.small; omega)
      have h6 : rolled s.cells i = s.cells.eraseIdx (s.cells.length - 1 - i) ++ [s.cells.getD (s.cells.length - 1 - i) 0] := by
        unfold rolled
        rw [List.getD_eq_getElem?_getD, List.getElem?_eq_getElem (by omega)]
        rfl
      refine ⟨?_, ?_⟩
      · show _ = some (rolled s.cells i, s.most, s.over, s.under, 0)
        rw [h6]
        exact h5
      · show (rolled s.cells i).length ≤ 5000
        rw [h6, List.length_append, List.length_eraseIdx, List.length_singleton]
        have := h.small
        split <;> omega
  exact finish h hv.2 (lightshipref08_Stack_Roll.calls 5001 _ _ _ _ _ _ _ _ _ _ _ _ W0 W h.below (kdR h.row) hv.1) rfl
end
end Go.Proofs.Yteoghagknececaa
