/- StackMay: printed by wip/stack/genO.py. -/
import Derived.Test.YteoghagknececaaL
import Derived.Laws.MakeOwn
namespace Go.Proofs.Yteoghagknececaa
open Go.RowKit Go.Proofs.YteoghagknececaaW.PrintWords Go.Proofs.YteoghagknececaaW.PrintMore
set_option linter.unusedVariables false
attribute [local go_sem] min2_int min_two

theorem may_nn (s : St) (t g : Nat) (hm : ¬ s.most = 0) : s.may t g = if (s.cells.length : Int) < t then s.few else if (g : Int) > s.most - ((s.cells.length : Int) - t) then s.over else 0 := by
  unfold St.may mx
  have h1 : ¬ ((g : Int) < 0) := by omega
  have h2 : ¬ ((t : Int) < 0) := by omega
  simp only [h1, if_false, h2, hm, false_or]

theorem make_run (b : Nat) (hb : b ≤ 70) (w : World) : (Instr.makeSlice 28 (.int .i64 (b : Int)) (.int .i64 (b : Int))).run Try.prog w = .ok (.slice (some ⟨w.heap.size, 0, none⟩) b b) (w.alloc (.cells (Array.replicate b (.int .u32 0)) 40)) := by
  obtain ⟨i0, hi, hzz⟩ := Option.map_eq_some_iff.1 info40
  simp only [Prod.mk.injEq] at hzz
  obtain ⟨hz0, hz1, hz2⟩ := hzz
  rw [run_make w 28 40 i0 (.int .u32 0) Try.underlying28 hi hz0 .i64 .i64 b b (by omega) (by omega) (by rw [hz2]; omega) (by omega), hz1]
  have : madeCells (Value.int .u32 0).cells (((b : Int)).toNat * 1) = (Array.replicate b (.int .u32 0)) := by
    rw [Int.toNat_natCast, Nat.mul_one]
    simp [madeCells, Value.cells]
    apply Array.ext
    · simp
    · intros; simp [Nat.mod_one]
  rw [this]
  rfl

set_option maxRecDepth 100000 in
set_option maxHeartbeats 1200000 in
theorem may_law (W : World) (a0 : Int) (h00 : 0 ≤ a0) (h01 : a0 ≤ 255) (X : Option Addr) (len cap : Nat) (l : List Int) (hl : l.length = len) (hb : len ≤ 2 ^ 47) (hcap : len ≤ cap) (hs : Src W X cap l) (a2 a3 : Int) (h20 : 0 ≤ a2) (h21 : a2 ≤ 255) (h30 : 0 ≤ a3) (h31 : a3 ≤ 255) :
    Calls Try.prog 6 #[.int .u8 a0, .slice X len cap, .int .u8 a2, .int .u8 a3] W fun e W' => e = .returned (.bool true) ∧ Chg Not W W' := by
  have HS : Hid (Src W X cap l) := hs
  clear hs
  obtain ⟨n, hn⟩ : ∃ n : Nat, (n : Int) = 1 + a0 % 60 := ⟨(1 + a0 % 60).toNat, by omega⟩
  have n1 : 1 ≤ n := by omega
  have n2 : n ≤ 60 := by omega
  have HN : Hid ((n : Int) = 1 + a0 % 60) := hn
  clear hn
  obtain ⟨a, hA⟩ : ∃ n : Nat, (n : Int) = a2 % 71 := ⟨(a2 % 71).toNat, by omega⟩
  have a71 : a ≤ 70 := by omega
  have HA : Hid ((a : Int) = a2 % 71) := hA
  clear hA
  obtain ⟨b, hB⟩ : ∃ n : Nat, (n : Int) = a3 % 71 := ⟨(a3 % 71).toNat, by omega⟩
  have b71 : b ≤ 70 := by omega
  have HB : Hid ((b : Int) = a3 % 71) := hB
  clear hB
  by_cases c2 : (n : Int) < (len : Int)
  · obtain ⟨r, hr'⟩ : ∃ r : Int, r = if (n : Int) < a then -6 else if (b : Int) > (n : Int) - (n - a) then -5 else 0 := ⟨_, rfl⟩
    have hr : Hid _ := hr'
    clear hr'
    have hmn : n ≤ n := by omega
    have hlm : Hid ((l.take n).length = n) := by show _ = _; rw [List.length_take]; omega
    have HS2 : Hid (Src W X cap (l.take n)) := HS.out.take n
    have q1 : (n : Int) ≤ cap := by omega
    go_enter Try.func6, Try.ntmps6
    go_wp2_with fail
    rw [← HN.out]
    refine (new_ok W n (-5) (-6) (by omega) (by omega) (by decide) (by decide) (Nat.le_refl _)).mono ?_
    rintro e w1 ⟨rfl, h1, C1⟩
    have H : Hid (Stk W.heap.size w1 W.heap.size none 0 ⟨[], n, -5, -6⟩) := h1
    have C : Hid (Chg Not W w1) := C1
    clear h1 C1
    have hmay0 : Hid (St.may ⟨[], n, -5, -6⟩ 0 (n : Nat) = 0) := by show _ = _; rw [may_zero, if_neg (by show ¬ ((n : Int) = 0); omega), if_neg (by show ¬ ((n : Nat) : Int) > (n : Int) - (0 : Int); omega)]
    go_wp2_with fail
    refine (push_yes H.out C.out.size X n cap (l.take n) (l.take n) hlm.out (HS2.out.not C.out) hmay0.out (by show (0 + (n : Nat) : Int) ≤ (n : Int); omega) rfl).mono ?_
    rintro e w2 ⟨rfl, h1, A2, c2, h2, -⟩
    have C2 : Hid (Chg Not W w2) := C.out.foot H.out h1
    have H2 : Hid (Stk W.heap.size w2 W.heap.size A2 c2 ⟨l.take n, n, -5, -6⟩) := h2
    clear h1 h2 H C
    go_wp2_with fail
    rw [← HA.out, ← HB.out]
    refine (may_is H2.out (a : Int) (b : Int) r (by omega) ?_).mono ?_
    · rw [may_nn _ a b (by show ¬ ((n : Int) = 0); omega)]
      show (if ((l.take n).length : Int) < a then St.few _ else if (b : Int) > (n : Int) - ((l.take n).length - a) then -5 else 0) = r
      rw [hlm.out, hr.out]
      by_cases hx : (n : Int) < a
      · rw [if_pos hx, if_pos hx]; unfold St.few; rw [if_neg (by show ¬ ((n : Int) = 0); omega)]
      · rw [if_neg hx, if_neg hx]
    rintro e w' ⟨rfl, rfl⟩
    go_wp2_with fail
    go_loopw [15, 16, 48] (fun _ _ v wr => ∃ (j : Nat), v = .int .i64 j ∧ j ≤ a ∧ j ≤ n ∧ Hid (Stk W.heap.size wr W.heap.size A2 c2 ⟨l.take (n - j), n, -5, -6⟩) ∧ Hid (Chg Not W wr)) (fun _ _ v _ => a - (intOf v).toNat)
    case atStart => exact ⟨0, rfl, by omega, by omega, H2, C2⟩
    case round =>
      clear H2 C2
      obtain ⟨j, rfl, hja, hjm, H, C⟩ := hrel
      by_cases hlt : j < a
      · by_cases hm : j < n
        · obtain ⟨x, hx⟩ : ∃ x, l[n - (j + 1)]? = some x := ⟨l[n - (j + 1)]'(by omega), by simp⟩
          have e1 : n - (j + 1) + 1 = n - j := by omega
          have HX : Hid (l.take (n - j) = l.take (n - (j + 1)) ++ [x]) := by show _ = _; rw [← e1]; exact take_snoc hx
          clear hx
          go_wp2_with fail
          refine (pop_ok H.out x (l.take (n - (j + 1))) HX.out).mono ?_
          rintro e w3 ⟨rfl, h1, h2⟩
          have C3 : Hid (Chg Not W w3) := C.out.one H.out h2
          have H3 : Hid (Stk W.heap.size w3 W.heap.size A2 c2 ⟨l.take (n - (j + 1)), n, -5, -6⟩) := h1
          clear h1 h2 H C
          go_wp2
          go_roundw
          case rel => exact ⟨j + 1, by go_num, by omega, by omega, H3, C3⟩
          case measure => simp [intOf]; omega
        · have e0 : n - j = 0 := by omega
          rw [e0] at H
          have hr2 : Hid (r = -6) := by show _ = _; rw [hr.out, if_pos (by omega)]
          go_wp2_with fail
          refine (pop_no H.out (-6) rfl (by unfold St.few; rw [if_neg (by show ¬ ((n : Int) = 0); omega)])).mono ?_
          rintro e w' ⟨rfl, rfl⟩
          rw [hr2.out]
          go_wp2_with fail
          refine (awake_any _).mono ?_
          rintro e w4 ⟨rfl, h4⟩
          have h5 := C.out.not h4
          have h5 : Hid _ := h5
          clear h4
          go_wp2
          go_ret
          exact ⟨rfl, h5.out⟩
      · obtain rfl : a = j := by omega
        have hlm2 : Hid ((l.take (n - a)).length = n - a) := by show _ = _; rw [List.length_take]; omega
        have hmk : ∀ w : World, (Instr.makeSlice 28 (.int .i64 (b : Int)) (.int .i64 (b : Int))).run Try.prog w = .ok (.slice (some ⟨w.heap.size, 0, none⟩) b b) (w.alloc (.cells (Array.replicate b (.int .u32 0)) 40)) := make_run b b71
        go_wp2_with fail
        have C2 : Hid _ := C.out.not ((Chg.refl _ _).alloc (.cells (Array.replicate b (.int .u32 0)) 40))
        have H2 : Hid _ := H.out.not ((Chg.refl _ _).alloc (.cells (Array.replicate b (.int .u32 0)) 40))
        have S : Hid (Src (wr.alloc (.cells (Array.replicate b (.int .u32 0)) 40)) (some ⟨wr.heap.size, 0, none⟩) b (List.replicate b 0)) := by
          have := src_build wr (List.replicate b 0)
          rw [List.length_replicate, show ((List.replicate b (0 : Int)).map (Value.int .u32)).toArray = Array.replicate b (.int .u32 0) by simp] at this
          exact this
        by_cases hx : (b : Int) > (n : Int) - ((n : Int) - a)
        · have hr2 : Hid (r = -5) := by show _ = _; rw [hr.out, if_neg (by omega), if_pos hx]
          refine (push_no H2.out _ b _ (-5) (by omega) ?_ (by decide)).mono ?_
          · rw [may_zero, if_neg (by show ¬ ((n : Int) = 0); omega), if_pos]
            show (b : Int) > (n : Int) - ((l.take (n - a)).length : Int)
            rw [hlm2.out]; omega
          rintro e w' ⟨rfl, rfl⟩
          rw [hr2.out]
          have C3 := C2.out
          generalize World.alloc wr _ = w3 at C3 ⊢
          have C3 : Hid _ := C3
          go_wp2_with fail
          refine (awake_any _).mono ?_
          rintro e w4 ⟨rfl, h4⟩
          have h5 := C3.out.not h4
          have h5 : Hid _ := h5
          clear h4
          go_wp2
          go_ret
          exact ⟨rfl, h5.out⟩
        · have hr2 : Hid (r = 0) := by show _ = _; rw [hr.out, if_neg (by omega), if_neg hx]
          refine (push_yes H2.out C2.out.size _ b _ (List.replicate b 0) _ (by simp) S.out ?_ ?_ rfl).mono ?_
          · rw [may_zero, if_neg (by show ¬ ((n : Int) = 0); omega), if_neg]
            show ¬ (b : Int) > (n : Int) - ((l.take (n - a)).length : Int)
            rw [hlm2.out]; omega
          · show (((l.take (n - a)).length : Int) + b) ≤ (n : Int)
            rw [hlm2.out]; omega
          rintro e w3 ⟨rfl, h1, -⟩
          have C3 : Hid (Chg Not W w3) := C2.out.foot H2.out h1
          clear h1
          rw [hr2.out]
          go_wp2_with fail
          refine (awake_any _).mono ?_
          rintro e w4 ⟨rfl, h4⟩
          have h5 := C3.out.not h4
          have h5 : Hid _ := h5
          clear h4
          go_wp2
          go_ret
          exact ⟨rfl, h5.out⟩
  · obtain ⟨r, hr'⟩ : ∃ r : Int, r = if (len : Int) < a then -6 else if (b : Int) > (n : Int) - (len - a) then -5 else 0 := ⟨_, rfl⟩
    have hr : Hid _ := hr'
    clear hr'
    have hmn : len ≤ n := by omega
    have hlm : Hid ((l.take len).length = len) := by show _ = _; rw [List.length_take]; omega
    have HS2 : Hid (Src W X cap (l.take len)) := HS.out.take len
    have q1 : (len : Int) ≤ cap := by omega
    go_enter Try.func6, Try.ntmps6
    go_wp2_with fail
    rw [← HN.out]
    refine (new_ok W n (-5) (-6) (by omega) (by omega) (by decide) (by decide) (Nat.le_refl _)).mono ?_
    rintro e w1 ⟨rfl, h1, C1⟩
    have H : Hid (Stk W.heap.size w1 W.heap.size none 0 ⟨[], n, -5, -6⟩) := h1
    have C : Hid (Chg Not W w1) := C1
    clear h1 C1
    have hmay0 : Hid (St.may ⟨[], n, -5, -6⟩ 0 (len : Nat) = 0) := by show _ = _; rw [may_zero, if_neg (by show ¬ ((n : Int) = 0); omega), if_neg (by show ¬ ((len : Nat) : Int) > (n : Int) - (0 : Int); omega)]
    go_wp2_with fail
    refine (push_yes H.out C.out.size X len cap (l.take len) (l.take len) hlm.out (HS2.out.not C.out) hmay0.out (by show (0 + (len : Nat) : Int) ≤ (n : Int); omega) rfl).mono ?_
    rintro e w2 ⟨rfl, h1, A2, c2, h2, -⟩
    have C2 : Hid (Chg Not W w2) := C.out.foot H.out h1
    have H2 : Hid (Stk W.heap.size w2 W.heap.size A2 c2 ⟨l.take len, n, -5, -6⟩) := h2
    clear h1 h2 H C
    go_wp2_with fail
    rw [← HA.out, ← HB.out]
    refine (may_is H2.out (a : Int) (b : Int) r (by omega) ?_).mono ?_
    · rw [may_nn _ a b (by show ¬ ((n : Int) = 0); omega)]
      show (if ((l.take len).length : Int) < a then St.few _ else if (b : Int) > (n : Int) - ((l.take len).length - a) then -5 else 0) = r
      rw [hlm.out, hr.out]
      by_cases hx : (len : Int) < a
      · rw [if_pos hx, if_pos hx]; unfold St.few; rw [if_neg (by show ¬ ((n : Int) = 0); omega)]
      · rw [if_neg hx, if_neg hx]
    rintro e w' ⟨rfl, rfl⟩
    go_wp2_with fail
    go_loopw [15, 16, 48] (fun _ _ v wr => ∃ (j : Nat), v = .int .i64 j ∧ j ≤ a ∧ j ≤ len ∧ Hid (Stk W.heap.size wr W.heap.size A2 c2 ⟨l.take (len - j), n, -5, -6⟩) ∧ Hid (Chg Not W wr)) (fun _ _ v _ => a - (intOf v).toNat)
    case atStart => exact ⟨0, rfl, by omega, by omega, H2, C2⟩
    case round =>
      clear H2 C2
      obtain ⟨j, rfl, hja, hjm, H, C⟩ := hrel
      by_cases hlt : j < a
      · by_cases hm : j < len
        · obtain ⟨x, hx⟩ : ∃ x, l[len - (j + 1)]? = some x := ⟨l[len - (j + 1)]'(by omega), by simp⟩
          have e1 : len - (j + 1) + 1 = len - j := by omega
          have HX : Hid (l.take (len - j) = l.take (len - (j + 1)) ++ [x]) := by show _ = _; rw [← e1]; exact take_snoc hx
          clear hx
          go_wp2_with fail
          refine (pop_ok H.out x (l.take (len - (j + 1))) HX.out).mono ?_
          rintro e w3 ⟨rfl, h1, h2⟩
          have C3 : Hid (Chg Not W w3) := C.out.one H.out h2
          have H3 : Hid (Stk W.heap.size w3 W.heap.size A2 c2 ⟨l.take (len - (j + 1)), n, -5, -6⟩) := h1
          clear h1 h2 H C
          go_wp2
          go_roundw
          case rel => exact ⟨j + 1, by go_num, by omega, by omega, H3, C3⟩
          case measure => simp [intOf]; omega
        · have e0 : len - j = 0 := by omega
          rw [e0] at H
          have hr2 : Hid (r = -6) := by show _ = _; rw [hr.out, if_pos (by omega)]
          go_wp2_with fail
          refine (pop_no H.out (-6) rfl (by unfold St.few; rw [if_neg (by show ¬ ((n : Int) = 0); omega)])).mono ?_
          rintro e w' ⟨rfl, rfl⟩
          rw [hr2.out]
          go_wp2_with fail
          refine (awake_any _).mono ?_
          rintro e w4 ⟨rfl, h4⟩
          have h5 := C.out.not h4
          have h5 : Hid _ := h5
          clear h4
          go_wp2
          go_ret
          exact ⟨rfl, h5.out⟩
      · obtain rfl : a = j := by omega
        have hlm2 : Hid ((l.take (len - a)).length = len - a) := by show _ = _; rw [List.length_take]; omega
        have hmk : ∀ w : World, (Instr.makeSlice 28 (.int .i64 (b : Int)) (.int .i64 (b : Int))).run Try.prog w = .ok (.slice (some ⟨w.heap.size, 0, none⟩) b b) (w.alloc (.cells (Array.replicate b (.int .u32 0)) 40)) := make_run b b71
        go_wp2_with fail
        have C2 : Hid _ := C.out.not ((Chg.refl _ _).alloc (.cells (Array.replicate b (.int .u32 0)) 40))
        have H2 : Hid _ := H.out.not ((Chg.refl _ _).alloc (.cells (Array.replicate b (.int .u32 0)) 40))
        have S : Hid (Src (wr.alloc (.cells (Array.replicate b (.int .u32 0)) 40)) (some ⟨wr.heap.size, 0, none⟩) b (List.replicate b 0)) := by
          have := src_build wr (List.replicate b 0)
          rw [List.length_replicate, show ((List.replicate b (0 : Int)).map (Value.int .u32)).toArray = Array.replicate b (.int .u32 0) by simp] at this
          exact this
        by_cases hx : (b : Int) > (n : Int) - ((len : Int) - a)
        · have hr2 : Hid (r = -5) := by show _ = _; rw [hr.out, if_neg (by omega), if_pos hx]
          refine (push_no H2.out _ b _ (-5) (by omega) ?_ (by decide)).mono ?_
          · rw [may_zero, if_neg (by show ¬ ((n : Int) = 0); omega), if_pos]
            show (b : Int) > (n : Int) - ((l.take (len - a)).length : Int)
            rw [hlm2.out]; omega
          rintro e w' ⟨rfl, rfl⟩
          rw [hr2.out]
          have C3 := C2.out
          generalize World.alloc wr _ = w3 at C3 ⊢
          have C3 : Hid _ := C3
          go_wp2_with fail
          refine (awake_any _).mono ?_
          rintro e w4 ⟨rfl, h4⟩
          have h5 := C3.out.not h4
          have h5 : Hid _ := h5
          clear h4
          go_wp2
          go_ret
          exact ⟨rfl, h5.out⟩
        · have hr2 : Hid (r = 0) := by show _ = _; rw [hr.out, if_neg (by omega), if_neg hx]
          refine (push_yes H2.out C2.out.size _ b _ (List.replicate b 0) _ (by simp) S.out ?_ ?_ rfl).mono ?_
          · rw [may_zero, if_neg (by show ¬ ((n : Int) = 0); omega), if_neg]
            show ¬ (b : Int) > (n : Int) - ((l.take (len - a)).length : Int)
            rw [hlm2.out]; omega
          · show (((l.take (len - a)).length : Int) + b) ≤ (n : Int)
            rw [hlm2.out]; omega
          rintro e w3 ⟨rfl, h1, -⟩
          have C3 : Hid (Chg Not W w3) := C2.out.foot H2.out h1
          clear h1
          rw [hr2.out]
          go_wp2_with fail
          refine (awake_any _).mono ?_
          rintro e w4 ⟨rfl, h4⟩
          have h5 := C3.out.not h4
          have h5 : Hid _ := h5
          clear h4
          go_wp2
          go_ret
          exact ⟨rfl, h5.out⟩
end Go.Proofs.Yteoghagknececaa
