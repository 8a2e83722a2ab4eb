/- awake: printed by wip/stack/gen.py. -/
import Derived.Test.YteoghagknececaaG
namespace Go.Proofs.Yteoghagknececaa
open Go.RowKit Go.Proofs.YteoghagknececaaW.PrintWords Go.Proofs.YteoghagknececaaW.PrintMore
set_option linter.unusedVariables false

set_option maxRecDepth 100000 in
set_option maxHeartbeats 4000000 in
theorem awake_any (W : World) : Calls Try.prog 12 #[] W fun e W' => e = .returned (.bool true) ∧ Chg Not W W' := by
  go_enter Try.func12, Try.ntmps12
  go_wp2_with fail
  refine (new_ok W (3) (-3) (-4) (by decide) (by decide) (by decide) (by decide) (Nat.le_refl _)).mono ?_
  rintro e w1 ⟨rfl, h1, C1⟩
  have H : Hid (Stk W.heap.size w1 W.heap.size none 0 ⟨[], 3, -3, -4⟩) := h1
  have C : Hid (Chg Not W w1) := C1
  clear h1 C1
  go_wp2_with fail
  refine (push_yes (H.out.not ((Chg.refl _ _).alloc _)) (Nat.le_trans C.out.size (by simp)) _ _ _ [7, 8] [7, 8] rfl (src_build w1 [7, 8]) (by decide) (by decide) rfl).mono ?_
  rintro e w2 ⟨rfl, h1, A2, c2, h2, -⟩
  have C : Hid (Chg Not W w2) := (C.out.not ((Chg.refl _ _).alloc _)).foot (H.out.not ((Chg.refl _ _).alloc _)) h1
  have H : Hid (Stk W.heap.size w2 W.heap.size A2 c2 ⟨[7, 8], 3, -3, -4⟩) := h2
  clear h1 h2
  go_wp2_with fail
  refine (push_no (H.out.not ((Chg.refl _ _).alloc _)) _ 2 _ (-3) (by decide) (by decide) (by decide)).mono ?_
  rintro e w' ⟨rfl, rfl⟩
  have C : Hid (Chg Not W (w2.alloc (.cells #[.int .u32 9, .int .u32 9] 40))) := C.out.not ((Chg.refl _ _).alloc (.cells #[.int .u32 9, .int .u32 9] 40))
  have H := H.out.not ((Chg.refl _ _).alloc (.cells #[.int .u32 9, .int .u32 9] 40)); have H : Hid _ := H
  generalize World.alloc w2 (.cells #[.int .u32 9, .int .u32 9] 40) = w3 at C H ⊢
  go_wp2_with fail
  refine (all_any H.out).mono ?_
  rintro e w4 ⟨A', c', rfl, h1, h2⟩
  have S : Hid (Src w4 A' c' [7, 8]) := Src.own h1
  have C : Hid (Chg Not W w4) := C.out.not h2
  have H := H.out.not h2; have H : Hid _ := H
  clear h1 h2
  go_wp2_with fail
  refine (cells_is true (S.out.not ((Chg.refl _ _).alloc _)) (src_build w4 [7, 8]) rfl rfl (by decide) (by decide) (by decide)).mono ?_
  rintro e w5 ⟨rfl, h2⟩
  have C : Hid (Chg Not W w5) := (C.out.not ((Chg.refl _ _).alloc _)).not h2
  have H := (H.out.not ((Chg.refl _ _).alloc _)).not h2; have H : Hid _ := H
  clear h2 S
  go_wp2_with fail
  refine (push_yes (H.out.not ((Chg.refl _ _).alloc _)) (Nat.le_trans C.out.size (by simp)) _ _ _ [9] [7, 8, 9] rfl (src_build w5 [9]) (by decide) (by decide) rfl).mono ?_
  rintro e w6 ⟨rfl, h1, A6, c6, h2, -⟩
  have C : Hid (Chg Not W w6) := (C.out.not ((Chg.refl _ _).alloc _)).foot (H.out.not ((Chg.refl _ _).alloc _)) h1
  have H : Hid (Stk W.heap.size w6 W.heap.size A6 c6 ⟨[7, 8, 9], 3, -3, -4⟩) := h2
  clear h1 h2
  go_wp2_with fail
  refine (peek_ok H.out 2 0 7 (by decide) rfl rfl).mono ?_
  rintro e w' ⟨rfl, rfl⟩
  go_wp2_with fail
  refine (roll_yes H.out C.out.size 2 [8, 9, 7] (by decide) rfl).mono ?_
  rintro e w7 ⟨rfl, h1, A7, c7, h2, -⟩
  have C : Hid (Chg Not W w7) := C.out.foot H.out h1
  have H : Hid (Stk W.heap.size w7 W.heap.size A7 c7 ⟨[8, 9, 7], 3, -3, -4⟩) := h2
  clear h1 h2
  go_wp2_with fail
  refine (all_any H.out).mono ?_
  rintro e w8 ⟨A', c', rfl, h1, h2⟩
  have S : Hid (Src w8 A' c' [8, 9, 7]) := Src.own h1
  have C : Hid (Chg Not W w8) := C.out.not h2
  have H := H.out.not h2; have H : Hid _ := H
  clear h1 h2
  go_wp2_with fail
  refine (cells_is true (S.out.not ((Chg.refl _ _).alloc _)) (src_build w8 [8, 9, 7]) rfl rfl (by decide) (by decide) (by decide)).mono ?_
  rintro e w9 ⟨rfl, h2⟩
  have C : Hid (Chg Not W w9) := (C.out.not ((Chg.refl _ _).alloc _)).not h2
  have H := (H.out.not ((Chg.refl _ _).alloc _)).not h2; have H : Hid _ := H
  clear h2 S
  go_wp2_with fail
  refine (pop_ok H.out 7 [8, 9] rfl).mono ?_
  rintro e w10 ⟨rfl, h2, h1⟩
  have C : Hid (Chg Not W w10) := C.out.one H.out h1
  have H : Hid (Stk W.heap.size w10 W.heap.size A7 c7 ⟨[8, 9], 3, -3, -4⟩) := h2
  clear h1 h2
  go_wp2_with fail
  refine (may_is H.out 1 2 0 (by decide) (by decide)).mono ?_
  rintro e w' ⟨rfl, rfl⟩
  go_wp2_with fail
  refine (may_is H.out 3 0 (-4) (by decide) (by decide)).mono ?_
  rintro e w' ⟨rfl, rfl⟩
  go_wp2_with fail
  refine (may_is H.out 0 2 (-3) (by decide) (by decide)).mono ?_
  rintro e w' ⟨rfl, rfl⟩
  go_wp2_with fail
  refine (cut_yes H.out 0 [] (by decide) (by decide) rfl).mono ?_
  rintro e w11 ⟨rfl, h2, h1⟩
  have C : Hid (Chg Not W w11) := C.out.one H.out h1
  have H : Hid (Stk W.heap.size w11 W.heap.size A7 c7 ⟨[], 3, -3, -4⟩) := h2
  clear h1 h2
  go_wp2_with fail
  refine (len_any H.out).mono ?_
  rintro e w' ⟨rfl, rfl⟩
  go_wp2_with fail
  refine (pop_no H.out (-4) rfl rfl).mono ?_
  rintro e w' ⟨rfl, rfl⟩
  go_wp2
  go_ret
  exact ⟨rfl, C.out⟩
end Go.Proofs.Yteoghagknececaa
