/- the methods of a nil stack; StackNone. -/
import Derived.Test.YteoghagknececaaH
namespace Go.Proofs.Yteoghagknececaa
open Go.RowKit Go.Proofs.YteoghagknececaaW.PrintWords Go.Proofs.YteoghagknececaaW.PrintMore
set_option linter.unusedVariables false

theorem may_nil (W : World) (t g : Int) (ht : t ≤ 2 ^ 63 - 1) : Calls Try.prog 24 #[.pointer none, .int .i64 t, .int .i64 g] W fun e W' => e = .returned (.int .i32 (-4)) ∧ W = W' := by
  go_enter Try.func24, Try.ntmps24
  go_wp2_with (first | (go_at_call 11; refine (len_nil _).mono ?_; rintro e w' ⟨rfl, rfl⟩) | (go_at_call 28; refine (few_nil _).mono ?_; rintro e w' ⟨rfl, rfl⟩))
  all_goals first | (exfalso; omega) | (go_ret; exact ⟨rfl, rfl⟩)
theorem push_nil (W : World) (X : Option Addr) (m c : Nat) (hm : m ≤ 2 ^ 47) : Calls Try.prog 13 #[.pointer none, .slice X m c] W fun e W' => e = .returned (.int .i32 (-4)) ∧ W = W' := by
  go_enter Try.func13, Try.ntmps13
  go_wp2_with (first | (go_at_call 24; refine (may_nil _ _ _ (by decide)).mono ?_; rintro e w' ⟨rfl, rfl⟩))
  all_goals first | (exfalso; omega) | (go_ret; exact ⟨rfl, rfl⟩)
theorem place_nil (W : World) (i : Int) : Calls Try.prog 26 #[.pointer none, .int .i64 i] W fun e W' => e = .returned (.tuple #[.int .i64 0, .int .i32 (-4)]) ∧ W = W' := by
  go_enter Try.func26, Try.ntmps26
  go_wp2_with (first | (go_at_call 11; refine (len_nil _).mono ?_; rintro e w' ⟨rfl, rfl⟩) | (go_at_call 28; refine (few_nil _).mono ?_; rintro e w' ⟨rfl, rfl⟩))
  all_goals first | (exfalso; omega) | (go_ret2; exact ⟨rfl, rfl⟩)
theorem peek_nil (W : World) (i : Int) : Calls Try.prog 21 #[.pointer none, .int .i64 i] W fun e W' => e = .returned (.tuple #[.int .u32 0, .int .i32 (-4)]) ∧ W = W' := by
  go_enter Try.func21, Try.ntmps21
  go_wp2_with (first | (go_at_call 26; refine (place_nil _ _).mono ?_; rintro e w' ⟨rfl, rfl⟩))
  all_goals first | (exfalso; omega) | (go_ret2; exact ⟨rfl, rfl⟩)
theorem pop_nil (W : World) : Calls Try.prog 15 #[.pointer none] W fun e W' => e = .returned (.tuple #[.int .u32 0, .int .i32 (-4)]) ∧ W = W' := by
  go_enter Try.func15, Try.ntmps15
  go_wp2_with (first | (go_at_call 21; refine (peek_nil _ _).mono ?_; rintro e w' ⟨rfl, rfl⟩))
  all_goals first | (exfalso; omega) | (go_ret2; exact ⟨rfl, rfl⟩)
theorem roll_nil (W : World) (i : Int) : Calls Try.prog 18 #[.pointer none, .int .i64 i] W fun e W' => e = .returned (.int .i32 (-4)) ∧ W = W' := by
  go_enter Try.func18, Try.ntmps18
  go_wp2_with (first | (go_at_call 26; refine (place_nil _ _).mono ?_; rintro e w' ⟨rfl, rfl⟩))
  all_goals first | (exfalso; omega) | (go_ret; exact ⟨rfl, rfl⟩)
theorem cut_nil (W : World) (i : Int) : Calls Try.prog 20 #[.pointer none, .int .i64 i] W fun e W' => e = .returned (.int .i32 (-4)) ∧ W = W' := by
  go_enter Try.func20, Try.ntmps20
  go_wp2_with (first | (go_at_call 11; refine (len_nil _).mono ?_; rintro e w' ⟨rfl, rfl⟩) | (go_at_call 28; refine (few_nil _).mono ?_; rintro e w' ⟨rfl, rfl⟩))
  all_goals first | (exfalso; omega) | (go_ret; exact ⟨rfl, rfl⟩)

/-- what the loop of StackNone keeps: a row of two stacks, nil and one that New did not answer. -/
structure Two (W0 W : World) (p g : Nat) : Prop where
  chg : Chg Not W0 W
  stk : Stk W0.heap.size W p none 0 ⟨[], 0, 0, 0⟩
  row : W.heap[g]? = some (.cells #[.pointer none, ptr p] 23 (0, 0))
theorem Two.not {W0 W W' : World} {p g : Nat} (h : Two W0 W p g) (hc : Chg Not W W') : Two W0 W' p g := ⟨h.chg.not hc, h.stk.not hc, hc.at h.row (fun h => h)⟩
theorem Two.c0 {W0 W : World} {p g : Nat} (h : Two W0 W p g) : W.cell? ⟨g, 0, none⟩ = some (.pointer none) := cells_cell h.row rfl
theorem Two.c1 {W0 W : World} {p g : Nat} (h : Two W0 W p g) : W.cell? ⟨g, 1, none⟩ = some (ptr p) := cells_cell h.row rfl
theorem stk0 {B : Nat} {W : World} {p : Nat} (hB : B ≤ p) (hb : W.heap[p]? = some (.cells #[.slice none 0 0, .int .i64 0, .int .i32 0, .int .i32 0] 54 (0, 0))) : Stk B W p none 0 ⟨[], 0, 0, 0⟩ :=
  ⟨hB, hb, World.ownsRow_nil _ _ _ _, by decide, by decide, by decide, fun h => absurd rfl h⟩

set_option maxRecDepth 100000 in
set_option maxHeartbeats 4000000 in
theorem none_any (W : World) (x i : Int) (hi : i ≤ 2 ^ 63 - 1) : Calls Try.prog 8 #[.int .u32 x, .int .i64 i] W fun e W' => e = .returned (.bool true) ∧ Chg Not W W' := by
  go_enter Try.func8, Try.ntmps8
  go_wp2_with fail
  go_loopw [6, 7, 8, 9, 10, 15] (fun _ _ _ _ _ v wr => (v = .int .i64 0 ∨ v = .int .i64 1 ∨ v = .int .i64 2) ∧ Hid (Two W wr W.heap.size (W.heap.size + 1))) (fun _ _ _ _ _ v _ => 2 - (intOf v).toNat)
  case atStart =>
    refine ⟨.inl rfl, ⟨((Chg.refl _ _).alloc _).alloc _, stk0 (Nat.le_refl _) ?_, ?_⟩⟩
    · exact ((Chg.refl (fun _ => False) _).alloc _).at (heap_alloc_new W _) (fun h => h)
    · exact (by simp : W.heap.size + 1 = (W.alloc _).heap.size) ▸ heap_alloc_new _ _
  case round =>
    obtain ⟨rfl | rfl | rfl, J⟩ := hrel
    · have c0 := J.out.c0
      go_wp2_with fail
      refine (pop_nil _).mono ?_
      rintro e w' ⟨rfl, rfl⟩
      go_wp2_with fail
      refine (peek_nil _ _).mono ?_
      rintro e w' ⟨rfl, rfl⟩
      go_wp2_with fail
      refine (push_nil _ _ 1 _ (by decide)).mono ?_
      rintro e w' ⟨rfl, rfl⟩
      have J2 := J.out.not ((Chg.refl _ _).alloc (.cells #[.int .u32 x] 40))
      have J2 : Hid _ := J2
      generalize World.alloc wr (.cells #[.int .u32 x] 40) = w2 at J2 ⊢
      go_wp2_with fail
      refine (may_nil _ _ _ hi).mono ?_
      rintro e w' ⟨rfl, rfl⟩
      go_wp2_with fail
      refine (roll_nil _ _).mono ?_
      rintro e w' ⟨rfl, rfl⟩
      go_wp2_with fail
      refine (cut_nil _ _).mono ?_
      rintro e w' ⟨rfl, rfl⟩
      go_wp2_with fail
      refine (len_nil _).mono ?_
      rintro e w' ⟨rfl, rfl⟩
      go_wp2_with fail
      refine (all_nil _).mono ?_
      rintro e w' ⟨rfl, rfl⟩
      go_wp2
      go_roundw
      case rel => exact ⟨.inr (.inl (by go_num)), J2⟩
      case measure => simp [intOf]
    · have c1 := J.out.c1
      go_wp2_with fail
      refine (pop_no J.out.stk (-4) rfl rfl).mono ?_
      rintro e w' ⟨rfl, rfl⟩
      go_wp2_with fail
      refine (peek_no J.out.stk i (-4) (by show i < 0 ∨ (0 : Int) ≤ i; omega) rfl).mono ?_
      rintro e w' ⟨rfl, rfl⟩
      go_wp2_with fail
      refine (push_no (J.out.stk.not ((Chg.refl _ _).alloc (.cells #[.int .u32 x] 40))) _ 1 _ (-4) (by decide) (by decide) (by decide)).mono ?_
      rintro e w' ⟨rfl, rfl⟩
      have J2 := J.out.not ((Chg.refl _ _).alloc (.cells #[.int .u32 x] 40))
      have J2 : Hid _ := J2
      generalize World.alloc wr (.cells #[.int .u32 x] 40) = w2 at J2 ⊢
      go_wp2_with fail
      refine (may_is J2.out.stk i i (-4) hi (by unfold St.may; rw [if_pos (.inl rfl)]; rfl)).mono ?_
      rintro e w' ⟨rfl, rfl⟩
      go_wp2_with fail
      refine (roll_no J2.out.stk i (-4) (by show i < 0 ∨ (0 : Int) ≤ i; omega) rfl).mono ?_
      rintro e w' ⟨rfl, rfl⟩
      go_wp2_with fail
      refine (cut_no J2.out.stk i (-4) (.inr (.inr rfl)) rfl).mono ?_
      rintro e w' ⟨rfl, rfl⟩
      go_wp2_with fail
      refine (len_any J2.out.stk).mono ?_
      rintro e w' ⟨rfl, rfl⟩
      go_wp2_with fail
      refine (all_any J2.out.stk).mono ?_
      rintro e w3 ⟨A3, c3, rfl, -, h3⟩
      have J3 := J2.out.not h3
      have J3 : Hid _ := J3
      clear h3
      go_wp2
      go_roundw
      case rel => exact ⟨.inr (.inr (by go_num)), J3⟩
      case measure => simp [intOf]
    · go_wp2_with fail
      refine (awake_any _).mono ?_
      rintro e w4 ⟨rfl, h4⟩
      have h5 := J.out.chg.not h4
      have h5 : Hid _ := h5
      clear h4
      go_wp2
      go_ret
      exact ⟨rfl, h5.out⟩
end Go.Proofs.Yteoghagknececaa
