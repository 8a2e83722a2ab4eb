/- Contracts of the stack's methods. -/
import Derived.Test.YteoghagknececaaProg
import Derived.WalkSpells
import Derived.Deep.QuietTactic
import Derived.BigQuiet
import Derived.Test.YteoghagknececaaM
import Derived.Test.YteoghagknececaaWMore
import Derived.Test.YteoghagknececaaWWords
namespace Go.Proofs.Yteoghagknececaa
open Go.RowKit Go.Proofs.YteoghagknececaaW.PrintWords Go.Proofs.YteoghagknececaaW.PrintMore

/-- a stack as plain data. -/
structure St where
  cells : List Int
  most : Int
  over : Int
  under : Int
def St.few (s : St) : Int := if s.most = 0 then -4 else s.under

/-- block p is a stack; its cells lie in a row of their own; all from block B on. -/
structure Stk (B : Nat) (W : World) (p : Nat) (A : Option Addr) (c : Nat) (s : St) : Prop where
  base : B ≤ p
  blk : W.heap[p]? = some (.cells #[.slice A s.cells.length c, .int .i64 s.most, .int .i32 s.over, .int .i32 s.under] 54 (0, 0))
  row : W.ownsRow B 40 1 (.slice A s.cells.length c) s.cells.length (s.cells.map (Value.int .u32))
  most0 : 0 ≤ s.most
  most1 : s.most ≤ 4096
  len : (s.cells.length : Int) ≤ s.most
  neg : s.most ≠ 0 → s.over < 0 ∧ s.under < 0
abbrev ptr (p : Nat) : Value := .pointer (some ⟨p, 0, none⟩)

theorem len_any {B : Nat} {W : World} {p : Nat} {A : Option Addr} {c : Nat} {s : St} (h : Stk B W p A c s) :
    Calls Try.prog 11 #[ptr p] W fun e W' => e = .returned (.int .i64 s.cells.length) ∧ W = W' := by
  have c0 : W.cell? ⟨p, 0, none⟩ = some (.slice A s.cells.length c) := cells_cell h.blk rfl
  have hl := h.len
  have hm := h.most1
  clear h
  go_enter Try.func11, Try.ntmps11
  go_wp2
  go_ret
  exact ⟨rfl, rfl⟩
theorem len_nil (W : World) : Calls Try.prog 11 #[.pointer none] W fun e W' => e = .returned (.int .i64 0) ∧ W = W' := by
  go_enter Try.func11, Try.ntmps11
  go_wp2
  go_ret
  exact ⟨rfl, rfl⟩
theorem few_any {B : Nat} {W : World} {p : Nat} {A : Option Addr} {c : Nat} {s : St} (h : Stk B W p A c s) :
    Calls Try.prog 28 #[ptr p] W fun e W' => e = .returned (.int .i32 s.few) ∧ W = W' := by
  have c1 : W.cell? ⟨p, 1, none⟩ = some (.int .i64 s.most) := cells_cell h.blk rfl
  have c3 : W.cell? ⟨p, 3, none⟩ = some (.int .i32 s.under) := cells_cell h.blk rfl
  clear h
  by_cases h0 : s.most = 0
  · have hf : Hid (s.few = -4) := by show _ = _; unfold St.few; rw [if_pos h0]
    have b0 : (s.most == 0) = true := beq_iff_eq.mpr h0
    clear h0
    go_enter Try.func28, Try.ntmps28
    go_wp2
    go_ret
    exact ⟨by rw [hf.out]; rfl, rfl⟩
  · have hf : Hid (s.few = s.under) := by show _ = _; unfold St.few; rw [if_neg h0]
    have b0 : (s.most == 0) = false := beq_eq_false_iff_ne.mpr h0
    clear h0
    go_enter Try.func28, Try.ntmps28
    go_wp2
    go_ret
    exact ⟨by rw [hf.out]; rfl, rfl⟩
theorem few_nil (W : World) : Calls Try.prog 28 #[.pointer none] W fun e W' => e = .returned (.int .i32 (-4)) ∧ W = W' := by
  go_enter Try.func28, Try.ntmps28
  go_wp2
  go_ret
  exact ⟨rfl, rfl⟩

def St.may (s : St) (t g : Int) : Int :=
  if s.most = 0 ∨ (s.cells.length : Int) < mx t 0 then s.few
  else if mx g 0 > s.most - (s.cells.length - mx t 0) then s.over else 0
theorem mx0 (x : Int) : 0 ≤ mx x 0 := by unfold mx; split <;> omega
theorem mx_le (x : Int) {n : Int} (h : x ≤ n) (h0 : 0 ≤ n) : mx x 0 ≤ n := by unfold mx; split <;> omega

theorem may_any {B : Nat} {W : World} {p : Nat} {A : Option Addr} {c : Nat} {s : St} (h : Stk B W p A c s) (t g : Int) (ht : t ≤ 2 ^ 63 - 1) :
    Calls Try.prog 24 #[ptr p, .int .i64 t, .int .i64 g] W fun e W' => e = .returned (.int .i32 (s.may t g)) ∧ W = W' := by
  have hl := h.len
  have hm := h.most1
  have hm0 := h.most0
  have c1 : W.cell? ⟨p, 1, none⟩ = some (.int .i64 s.most) := cells_cell h.blk rfl
  have c2 : W.cell? ⟨p, 2, none⟩ = some (.int .i32 s.over) := cells_cell h.blk rfl
  obtain ⟨r, hs⟩ : ∃ r, r = s.may t g := ⟨_, rfl⟩
  rw [← hs]
  unfold St.may at hs
  have H : Hid (Stk B W p A c s) := h
  have HS : Hid (r = if s.most = 0 ∨ (s.cells.length : Int) < mx t 0 then s.few else if mx g 0 > s.most - (s.cells.length - mx t 0) then s.over else 0) := hs
  clear h hs
  go_enter Try.func24, Try.ntmps24
  go_wp2_with (first | (go_at_call 11; refine (len_any H.out).mono ?_; rintro e w' ⟨rfl, rfl⟩) | (go_at_call 28; refine (few_any H.out).mono ?_; rintro e w' ⟨rfl, rfl⟩))
  all_goals go_ret
  all_goals (refine ⟨?_, rfl⟩; rw [HS.out]; unfold mx; repeat' split)
  all_goals first | rfl | (exfalso; omega) | skip
  all_goals (exfalso; clear HS H; simp only [beq_iff_eq] at *; omega)
end Go.Proofs.Yteoghagknececaa
