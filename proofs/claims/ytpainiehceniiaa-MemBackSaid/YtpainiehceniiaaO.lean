/- A memory that is none. -/
import Derived.Test.YtpainiehceniiaaN
namespace Go.Proofs.Ytpainiehceniiaa
open Go.RowKit Go.Shelf
set_option linter.unusedVariables false

/-- a memory that is none: nil, or one that New did not answer. -/
def Dead (vp : Value) (W : World) : Prop := Calls Try.prog 25 #[vp] W fun e W' => e = .returned (.bool true) ∧ W = W'
theorem dead_nil (W : World) : Dead (.pointer none) W := by
  unfold Dead
  go_enter Try.func25, Try.ntmps25
  go_wp2
  go_ret
  exact ⟨rfl, rfl⟩
theorem dead_zero {W : World} {p : Nat} (h : W.heap[p]? = some (.cells #[.slice none 0 0, .slice none 0 0] 50 (0, 0))) : Dead (ptr p) W := by
  have c0 : W.cell? ⟨p, 0, none⟩ = some (.slice none 0 0) := cells_cell h rfl
  have hq : ∀ w : World, (binOp .eql 22 (.slice none 0 0) (.slice none 0 0)).run Try.prog w = .ok (.bool true) w := fun w => Lib.run_eql_slice_nil w 22 5 none 0 0 0 0 Try.underlying22
  clear h
  unfold Dead
  go_enter Try.func25, Try.ntmps25
  go_wp2
  go_ret
  exact ⟨rfl, rfl⟩
variable {W : World} {vp : Value}
theorem there_dead (D : Dead vp W) (a n : Int) : Calls Try.prog 30 #[vp, .int .u32 a, .int .u32 n] W fun e W' => e = .returned (.tuple #[.slice none 0 0, .bool false, .int .i32 (-9)]) ∧ W = W' := by
  have D : Hid (Calls Try.prog 25 #[vp] W fun e W' => e = .returned (.bool true) ∧ W = W') := D
  go_enter Try.func30, Try.ntmps30
  go_wp2_with fail
  refine D.out.mono ?_
  rintro e w' ⟨rfl, rfl⟩
  go_wp2
  go_ret3
  exact ⟨rfl, rfl⟩
theorem open_dead (D : Dead vp W) (a n : Int) : Calls Try.prog 27 #[vp, .int .u32 a, .int .u32 n] W fun e W' => e = .returned (.tuple #[.slice none 0 0, .int .i32 (-9)]) ∧ W = W' := by
  have D := hid (there_dead D a n)
  go_enter Try.func27, Try.ntmps27
  go_wp2_with fail
  refine D.out.mono ?_
  rintro e w' ⟨rfl, rfl⟩
  go_wp2
  go_ret2
  exact ⟨rfl, rfl⟩
theorem aligned_dead (D : Dead vp W) (a : Int) : Calls Try.prog 26 #[vp, .int .u32 a] W fun e W' => e = .returned (.int .i32 (-9)) ∧ W = W' := by
  have D : Hid (Calls Try.prog 25 #[vp] W fun e W' => e = .returned (.bool true) ∧ W = W') := D
  go_enter Try.func26, Try.ntmps26
  go_wp2_with fail
  refine D.out.mono ?_
  rintro e w' ⟨rfl, rfl⟩
  go_wp2
  go_ret
  exact ⟨rfl, rfl⟩
theorem byte_dead (D : Dead vp W) (a : Int) : Calls Try.prog 22 #[vp, .int .u32 a] W fun e W' => e = .returned (.tuple #[.int .u8 0, .int .i32 (-9)]) ∧ W = W' := by
  have D := hid (there_dead D a 1)
  go_enter Try.func22, Try.ntmps22
  go_wp2_with fail
  refine D.out.mono ?_
  rintro e w' ⟨rfl, rfl⟩
  go_wp2
  go_ret2
  exact ⟨rfl, rfl⟩
theorem bytes_dead (D : Dead vp W) (a n : Int) : Calls Try.prog 23 #[vp, .int .u32 a, .int .u32 n] W fun e W' => e = .returned (.tuple #[.slice none 0 0, .int .i32 (-9)]) ∧ Chg Not W W' := by
  have D := hid (there_dead D a n)
  go_enter Try.func23, Try.ntmps23
  go_wp2_with fail
  refine D.out.mono ?_
  rintro e w' ⟨rfl, rfl⟩
  go_wp2_with fail
  refine (clone_any (A := none) (n := 0) (c := 0) Src.nil rfl (by decide) (fun _ => rfl)).mono ?_
  rintro e w2 ⟨A', c', rfl, ho, hA, hc⟩
  obtain rfl := hA.2 rfl
  have hc' : c' = 0 := by
    rcases ho.2 with ⟨hv, _⟩ | ⟨g, cap, cur, hv, _⟩
    · injection hv
    · cases hv
  subst hc'
  have hc := hid hc
  clear ho hA
  go_wp2
  go_ret2
  exact ⟨rfl, hc.out⟩
theorem load_dead (D : Dead vp W) (a : Nat) : Calls Try.prog 21 #[vp, .int .u32 a] W fun e W' => e = .returned (.tuple #[.int .u32 0, .int .i32 (-9)]) ∧ Chg Not W W' :=
  (load_align a (-9) (by decide) (hid (aligned_dead D a))).mono fun e W' h => ⟨h.1, not_of_below h.2⟩
theorem store_dead (D : Dead vp W) (a : Nat) (x : Int) : Calls Try.prog 11 #[vp, .int .u32 a, .int .u32 x] W fun e W' => e = .returned (.int .i32 (-9)) ∧ W = W' := store_no a x (-9) (by decide) (hid (aligned_dead D a))
theorem fill_dead (D : Dead vp W) (a n : Nat) (b : Int) : Calls Try.prog 17 #[vp, .int .u32 a, .int .u32 n, .int .u8 b] W fun e W' => e = .returned (.int .i32 (-9)) ∧ W = W' := fill_none a n b none (-9) (hid (open_dead D a n))
theorem setByte_dead (D : Dead vp W) (a : Nat) (b : Int) : Calls Try.prog 13 #[vp, .int .u32 a, .int .u8 b] W fun e W' => e = .returned (.int .i32 (-9)) ∧ W = W' := setByte_core a b (-9) (fun W' => W = W') (hid (fill_dead D a 1 b))
theorem move_dead (D : Dead vp W) (a b n : Nat) : Calls Try.prog 15 #[vp, .int .u32 a, .int .u32 b, .int .u32 n] W fun e W' => e = .returned (.int .i32 (-9)) ∧ W = W' := move_no a b n (hid (there_dead D a n))
theorem show_dead (D : Dead vp W) (X : Option Addr) (n c : Nat) : Calls Try.prog 19 #[vp, .slice X n c] W fun e W' => e = .returned (.int .i64 1) ∧ W = W' := by
  have D : Hid (Calls Try.prog 25 #[vp] W fun e W' => e = .returned (.bool true) ∧ W = W') := D
  go_enter Try.func19, Try.ntmps19
  go_wp2_with fail
  refine D.out.mono ?_
  rintro e w' ⟨rfl, rfl⟩
  go_wp2
  go_ret
  exact ⟨rfl, rfl⟩
theorem ram_dead (D : Dead vp W) : Calls Try.prog 10 #[vp] W fun e W' => e = .returned (.slice none 0 0) ∧ W = W' := by
  have D : Hid (Calls Try.prog 25 #[vp] W fun e W' => e = .returned (.bool true) ∧ W = W') := D
  go_enter Try.func10, Try.ntmps10
  go_wp2_with fail
  refine D.out.mono ?_
  rintro e w' ⟨rfl, rfl⟩
  go_wp2
  go_ret
  exact ⟨rfl, rfl⟩
end Go.Proofs.Ytpainiehceniiaa
