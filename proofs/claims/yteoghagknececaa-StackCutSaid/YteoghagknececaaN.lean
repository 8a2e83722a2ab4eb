/- StackCut. -/
import Derived.Test.YteoghagknececaaL
import Derived.Deep.RegionWith
import Derived.Deep.DrawnRows
namespace Go.Proofs.Yteoghagknececaa
open Go.RowKit Go.Proofs.YteoghagknececaaW.PrintWords Go.Proofs.YteoghagknececaaW.PrintMore
set_option linter.unusedVariables false
attribute [local go_sem ↓] Go.wp_at_zero Go.wp_at_succ

/-- two stacks that share nothing. -/
def Apart (p : Nat) (A : Option Addr) (q : Nat) (A1 : Option Addr) : Prop := ∀ k, Foot p A k → ¬ Foot q A1 k
theorem Stk.foot_lt {B : Nat} {W : World} {p : Nat} {A : Option Addr} {c : Nat} {s : St} (h : Stk B W p A c s) {k : Nat} (hk : Foot p A k) : k < W.heap.size := by
  rcases hk with rfl | hk
  · exact h.lt
  · exact (row_lt h.row (by rwa [own_block A _ _ 0 0])).2
/-- behind a call on the one, the other is as it was, and they are apart. -/
theorem Apart.step {B : Nat} {W : World} {p q : Nat} {A A1 A2 : Option Addr} {c : Nat} {s : St} (h : Apart p A q A1) (H : Stk B W p A c s) (ha : At A2 A1 W.heap.size) : Apart p A q A2 := by
  intro k hk hf
  rcases hf with rfl | hf
  · exact h _ hk (.inl rfl)
  · rcases ha with h2 | ⟨g, h2, hg⟩
    · exact h _ hk (.inr (h2 ▸ hf))
    · have := H.foot_lt hk
      rw [h2] at hf; injection hf with hf; omega
theorem Apart.symm {p q : Nat} {A A1 : Option Addr} (h : Apart p A q A1) : Apart q A1 p A := fun k hk hf => h k hf hk
theorem Stk.fresh {B : Nat} {W W' : World} {p : Nat} {A : Option Addr} {c : Nat} {s : St} (h : Stk B W p A c s) {F : Nat → Prop} (hc : Chg F W W') (hF : ∀ k, k < W.heap.size → ¬ F k) : Stk B W' p A c s := h.chg hc fun k hk => hF k (h.foot_lt hk)
/-- a row of the call's own, one cell set. -/
theorem own_set {W : World} {B : Nat} {g n c : Nat} {xs : List Value} (h : W.ownsRow B 40 1 (.slice (some ⟨g, 0, none⟩) n c) n xs) (j : Nat) (hj : j < n) (v : Value) :
    (W.setCell ⟨g, j, none⟩ v).ownsRow B 40 1 (.slice (some ⟨g, 0, none⟩) n c) n (xs.set j v) := by
  rcases h.2 with ⟨h0, _⟩ | ⟨g', cap, cur, hv, hb, hh, hn, hm, hs, ht⟩
  · cases h0
  · injection hv with h1 _ h3
    injection h1 with h1; injection h1 with h1
    subst h1; subst h3
    refine ⟨by simpa using h.1, .inr ⟨g, c, _, rfl, hb, set_cells hh, hn, hm, by simpa using hs, ?_⟩⟩
    rw [Array.toList_setIfInBounds, List.take_set, ht]
theorem own_free {W : World} {B : Nat} {g n c : Nat} {xs : List Value} (h : W.ownsRow B 40 1 (.slice (some ⟨g, 0, none⟩) n c) n xs) (j : Nat) : W.frozen? ⟨g, j, none⟩ = false ∧ B ≤ g := by
  rcases h.2 with ⟨h0, _⟩ | ⟨g', cap, cur, hv, hb, hh, hn, hm, hs, ht⟩
  · cases h0
  · injection hv with h1 _ h3
    injection h1 with h1; injection h1 with h1
    subst h1
    exact ⟨cells_free hh, hb⟩

structure Pair (W0 W : World) (p q : Nat) (A A1 : Option Addr) (c c1 : Nat) (s s1 : St) : Prop where
  chg : Chg Not W0 W
  one : Stk W0.heap.size W p A c s
  two : Stk W0.heap.size W q A1 c1 s1
  apart : Apart p A q A1
theorem Pair.not {W0 W W' : World} {p q : Nat} {A A1 : Option Addr} {c c1 : Nat} {s s1 : St} (h : Pair W0 W p q A A1 c c1 s s1) (hc : Chg Not W W') : Pair W0 W' p q A A1 c c1 s s1 :=
  ⟨h.chg.not hc, h.one.not hc, h.two.not hc, h.apart⟩

set_option maxRecDepth 100000 in
set_option maxHeartbeats 2000000 in
theorem cut_law (W : World) (a1 : Int) (h0 : 0 ≤ a1) (h255 : a1 ≤ 255) (X : Option Addr) (len cap : Nat) (l : List Int) (hl : l.length = len) (hb : len ≤ 2 ^ 47) (hcap : len ≤ cap) (hs : Src W X cap l) :
    Calls Try.prog 7 #[.slice X len cap, .int .u8 a1] W fun e W' => e = .returned (.bool true) ∧ Chg Not W W' := by
  have HS : Hid (Src W X cap l) := hs
  clear hs
  by_cases h60 : len ≤ 60
  · have b0 : decide (60 < (len : Int)) = false := decide_eq_false (by omega)
    obtain ⟨k, hk⟩ : ∃ k : Nat, (k : Int) = a1 % ((len : Int) + 1) := ⟨(a1 % ((len : Int) + 1)).toNat, Int.toNat_of_nonneg (Int.emod_nonneg _ (by omega))⟩
    have hkl : k ≤ len := by
      have : a1 % ((len : Int) + 1) < (len : Int) + 1 := Int.emod_lt_of_pos _ (by omega)
      omega
    have HK : Hid (a1 % ((len : Int) + 1) = k) := hk.symm
    clear hk
    go_enter Try.func7, Try.ntmps7
    go_wp2_with fail
    refine (new_ok W 60 (-3) (-4) (by omega) (by omega) (by decide) (by decide) (Nat.le_refl _)).mono ?_
    rintro e w1 ⟨rfl, h1, C1⟩
    go_wp2_with fail
    refine (new_ok w1 60 (-3) (-4) (by omega) (by omega) (by decide) (by decide) (B := W.heap.size) C1.size).mono ?_
    rintro e w2 ⟨rfl, h2, C2⟩
    have J : Hid (Pair W w2 W.heap.size w1.heap.size none none 0 0 ⟨[], 60, -3, -4⟩ ⟨[], 60, -3, -4⟩) := ⟨C1.not C2, h1.not C2, h2, fun k hk hf => by
      rcases hk with rfl | hk
      · rcases hf with hf | hf
        · have := h1.lt; omega
        · cases hf
      · cases hk⟩
    have hpq : W.heap.size < w1.heap.size := h1.lt
    clear h1 C1 h2 C2
    generalize w1.heap.size = q at J hpq ⊢
    have hmay : Hid (St.may ⟨[], 60, -3, -4⟩ 0 (len : Nat) = 0) := by show _ = _; rw [may_zero, if_neg (by decide), if_neg (by show ¬ (len : Int) > 60 - (0 : Int); omega)]
    go_wp2_with fail
    refine (push_yes J.out.one J.out.chg.size X len cap l l hl (HS.out.not J.out.chg) hmay.out (by show (0 + len : Int) ≤ 60; omega) rfl).mono ?_
    rintro e w3 ⟨rfl, h1, A3, c3, h3, at3⟩
    have J3 : Hid (Pair W w3 W.heap.size q A3 none c3 0 ⟨l, 60, -3, -4⟩ ⟨[], 60, -3, -4⟩) := ⟨J.out.chg.foot J.out.one h1, h3, J.out.two.chg h1 J.out.apart.symm, (J.out.apart.symm.step J.out.two at3).symm⟩
    clear h1 h3 J at3
    go_wp2_with fail
    refine (push_yes J3.out.two J3.out.chg.size X len cap l l hl (HS.out.not J3.out.chg) hmay.out (by show (0 + len : Int) ≤ 60; omega) rfl).mono ?_
    rintro e w4 ⟨rfl, h1, A4, c4, h4, at4⟩
    have J : Hid (Pair W w4 W.heap.size q A3 A4 c3 c4 ⟨l, 60, -3, -4⟩ ⟨l, 60, -3, -4⟩) := ⟨J3.out.chg.foot J3.out.two h1, J3.out.one.chg h1 J3.out.apart, h4, J3.out.apart.step J3.out.one at4⟩
    clear h1 h4 J3 at4
    go_wp2_with fail
    rw [HK.out]
    refine (all_any J.out.one).mono ?_
    rintro e w5 ⟨A5, c5, rfl, h5, h6⟩
    have C5 : Hid (Chg Not w4 w5) := h6
    have hB5 : W.heap.size ≤ w4.heap.size := J.out.chg.size
    have HR : Hid (w5.ownsRow w4.heap.size 40 1 (.slice A5 l.length c5) l.length (l.map (Value.int .u32))) := h5
    clear h5 h6
    rw [hl]
    go_wp2_with fail
    go_loopw [11, 52] (fun _ v wr => ∃ (j : Nat) (vs : List Int), v = .int .i64 j ∧ j ≤ len ∧ Hid (Chg Not w4 wr) ∧ Hid (wr.ownsRow w4.heap.size 40 1 (.slice A5 len c5) len (vs.map (Value.int .u32)))) (fun _ v _ => len - (intOf v).toNat)
    case atStart => exact ⟨0, l, rfl, by omega, C5, by rw [← hl]; exact HR.out⟩
    case round =>
      obtain ⟨j, vs, rfl, hj, C, R⟩ := hrel
      have hvl : vs.length = len := by simpa using R.out.1
      by_cases hlt : j < len
      · obtain ⟨x, hx⟩ : ∃ x, vs[j]? = some x := ⟨vs[j]'(by omega), by simp⟩
        obtain ⟨g, rfl, k0⟩ := own_cell (x := .int .u32 x) R.out (by simp [hx] : (vs.map (Value.int .u32))[j]? = _)
        have f0 := (own_free R.out j).1
        have hg := (own_free R.out j).2
        have R2 : ∀ y : Int, Hid ((wr.setCell ⟨g, j, none⟩ (.int .u32 y)).ownsRow w4.heap.size 40 1 (.slice (some ⟨g, 0, none⟩) len c5) len ((vs.set j y).map (Value.int .u32))) := fun y => by
          show World.ownsRow _ _ _ _ _ _ _
          rw [List.map_set]
          exact own_set R.out j hlt _
        clear hx
        go_wp2
        go_roundw
        case rel => exact ⟨j + 1, _, by go_num, by omega, C.out.setCell (fun h => by have h : g < w4.heap.size := h; omega) _, R2 _⟩
        case measure => simp [intOf]; omega
      · have J2 : Hid _ := J.out.not C.out
        have hk1 : IntKind.i64.wrap ((k : Int) + 1) = (k : Int) + 1 := IntWalk.i64_in _ (by omega)
        clear J C R
        go_wp2_with fail
        refine (cut_yes J2.out.one k (l.take k) (by show k ≤ l.length; omega) (by show (60 : Int) ≠ 0; decide) rfl).mono ?_
        rintro e w6 ⟨rfl, h1, h2⟩
        have J : Hid (Pair W w6 W.heap.size q A3 A4 c3 c4 ⟨l.take k, 60, -3, -4⟩ ⟨l, 60, -3, -4⟩) := ⟨J2.out.chg.one J2.out.one h2, h1, J2.out.two.chg h2.foot1 J2.out.apart.symm, J2.out.apart⟩
        clear h1 h2 J2
        have hlk : (l.take k).length = k := by rw [List.length_take]; omega
        have HLK : Hid ((l.take k).length = k) := hlk
        go_wp2_with fail
        refine (cut_no J.out.one ((k : Int) + 1) (-4) (.inr (.inl (by show ((l.take k).length : Int) < (k : Int) + 1; omega))) rfl).mono ?_
        rintro e w' ⟨rfl, rfl⟩
        go_wp2_with fail
        refine (cut_no J.out.one (-1) (-4) (.inl (by decide)) rfl).mono ?_
        rintro e w' ⟨rfl, rfl⟩
        go_wp2_with fail
        go_loopw [82] (fun v wr => ∃ (j : Nat), v = .int .i64 j ∧ j ≤ len - k ∧ Hid (Pair W wr W.heap.size q A3 A4 c3 c4 ⟨l.take k, 60, -3, -4⟩ ⟨l.take (len - j), 60, -3, -4⟩)) (fun v _ => len - (intOf v).toNat)
        case atStart => exact ⟨0, rfl, by omega, by rw [Nat.sub_zero, ← hl, List.take_length]; exact J⟩
        case round =>
          clear J
          obtain ⟨i, rfl, hi, J⟩ := hrel
          by_cases hlt2 : i < len - k
          · have q1 : (i : Int) < (len : Int) - k := by omega
            obtain ⟨x, hx⟩ : ∃ x, l[len - (i + 1)]? = some x := ⟨l[len - (i + 1)]'(by omega), by simp⟩
            have e1 : len - (i + 1) + 1 = len - i := by omega
            have HX : Hid (l.take (len - i) = l.take (len - (i + 1)) ++ [x]) := by show _ = _; rw [← e1]; exact take_snoc hx
            clear hx
            go_wp2_with fail
            refine (pop_ok J.out.two x (l.take (len - (i + 1))) HX.out).mono ?_
            rintro e w7 ⟨rfl, h1, h2⟩
            have J2 : Hid (Pair W w7 W.heap.size q A3 A4 c3 c4 ⟨l.take k, 60, -3, -4⟩ ⟨l.take (len - (i + 1)), 60, -3, -4⟩) := ⟨J.out.chg.one J.out.two h2, J.out.one.chg h2.foot1 J.out.apart, h1, J.out.apart⟩
            clear h1 h2 J
            go_wp2
            go_roundw
            case rel => exact ⟨i + 1, by go_num, by omega, J2⟩
            case measure => simp [intOf]; omega
          · have q1 : (len : Int) - k ≤ i := by omega
            have e1 : len - i = k := by omega
            rw [e1] at J
            clear hlk
            have q2 : (k : Int) ≤ cap := by omega
            have HS2 : Hid (Src W X cap (l.take k)) := HS.out.take k
            go_wp2_with fail
            have J : Hid (Pair W wr.drew W.heap.size q A3 A4 c3 c4 ⟨l.take k, 60, -3, -4⟩ ⟨l.take k, 60, -3, -4⟩) := J.out.not (Chg.refl _ _).drew
            go_region_with (first
              | (go_at_call 23; refine (all_is J.out.one k HLK.out).mono ?_; rintro e w8 ⟨A8, c8, rfl, h1, h2⟩; have S1 : Hid (Src w8 A8 c8 (l.take k)) := Src.own h1; have J : Hid (Pair W w8 W.heap.size q A3 A4 c3 c4 ⟨l.take k, 60, -3, -4⟩ ⟨l.take k, 60, -3, -4⟩) := J.out.not h2; clear h1 h2)
              | (go_at_call 23; refine (all_is J.out.two k HLK.out).mono ?_; rintro e w9 ⟨A9, c9, rfl, h1, h2⟩; have S2 : Hid (Src w9 A9 c9 (l.take k)) := Src.own h1; have J : Hid (Pair W w9 W.heap.size q A3 A4 c3 c4 ⟨l.take k, 60, -3, -4⟩ ⟨l.take k, 60, -3, -4⟩) := J.out.not h2; have S1 : Hid (Src w9 _ _ (l.take k)) := S1.out.not h2; clear h1 h2)
              | (go_at_call 22; refine (cells_is true S1.out S2.out HLK.out HLK.out (by omega) (by omega) (by simp)).mono ?_; rintro e w10 ⟨rfl, h2⟩; have J : Hid (Pair W w10 W.heap.size q A3 A4 c3 c4 ⟨l.take k, 60, -3, -4⟩ ⟨l.take k, 60, -3, -4⟩) := J.out.not h2; clear h2 S1 S2)
              | (go_at_call 22; refine (cells_is true S1.out (HS2.out.not J.out.chg) HLK.out HLK.out (by omega) (by omega) (by simp)).mono ?_; rintro e w10 ⟨rfl, h2⟩; have J : Hid (Pair W w10 W.heap.size q A3 A4 c3 c4 ⟨l.take k, 60, -3, -4⟩ ⟨l.take k, 60, -3, -4⟩) := J.out.not h2; clear h2 S1)
              | (go_at_call 12; refine (awake_any _).mono ?_; rintro e w11 ⟨rfl, h2⟩; have J : Hid (Pair W w11 W.heap.size q A3 A4 c3 c4 ⟨l.take k, 60, -3, -4⟩ ⟨l.take k, 60, -3, -4⟩) := J.out.not h2; clear h2))
            all_goals go_wp2
            all_goals go_ret
            all_goals exact ⟨rfl, J.out.chg⟩
  · have b0 : decide (60 < (len : Int)) = true := decide_eq_true (by omega)
    go_enter Try.func7, Try.ntmps7
    go_wp2_with fail
    refine (awake_any _).mono ?_
    rintro e w4 ⟨rfl, h4⟩
    have h5 : Hid _ := h4
    clear h4
    go_wp2
    go_ret
    exact ⟨rfl, h5.out⟩
end Go.Proofs.Yteoghagknececaa
