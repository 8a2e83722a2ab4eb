/- slices that came in; StackBack as its row asks. -/
import Derived.Test.YteoghagknececaaK
namespace Go.Proofs.Yteoghagknececaa
open Go.RowKit Go.Proofs.YteoghagknececaaW.PrintWords Go.Proofs.YteoghagknececaaW.PrintMore

theorem src_row {w : World} {A : Option Addr} {len cap : Nat} {z : List Int} (h : (A = none ∧ len = 0 ∧ cap = 0 ∧ z = []) ∨ ∃ x, A = some x ∧ len ≤ cap ∧ cap ≤ maxLen ∧ z.length = cap ∧ (∀ i, i < z.length → w.cell? (x.add i) = some (.int .u32 (z.getD i 0))) ∧ ∀ n ∈ z, (Lit.int .u32 n).wf = true) :
    len ≤ cap ∧ (z.take len).length = len ∧ Src w A cap (z.take len) ∧ ∀ x ∈ z.take len, 0 ≤ x ∧ x ≤ 4294967295 := by
  rcases h with ⟨rfl, rfl, rfl, rfl⟩ | ⟨x, rfl, h1, h2, h3, h4, h5⟩
  · exact ⟨Nat.le_refl _, rfl, ⟨fun _ => ⟨rfl, rfl⟩, fun ad ha => by cases ha⟩, by simp⟩
  · refine ⟨h1, by simp; omega, ⟨fun ha => (by cases ha), fun ad ha j u hu => ?_⟩, fun y hy => wf_u32 (h5 y (List.mem_of_mem_take hy))⟩
    injection ha with ha
    subst ha
    rw [List.map_take, List.getElem?_take] at hu
    split at hu
    · rename_i hj
      rw [h4 j (by omega)]
      rw [List.getElem?_map, List.getElem?_eq_getElem (by omega)] at hu
      rw [List.getD_eq_getElem?_getD, List.getElem?_eq_getElem (by omega)]
      exact hu
    · cases hu
theorem all_is {B : Nat} {W : World} {p : Nat} {A : Option Addr} {c : Nat} {s : St} (h : Stk B W p A c s) (n : Nat) (hn : s.cells.length = n) :
    Calls Try.prog 23 #[ptr p] W fun e W' => ∃ A' c', e = .returned (.slice A' n c') ∧ W'.ownsRow W.heap.size 40 1 (.slice A' n c') n (s.cells.map (Value.int .u32)) ∧ Chg Not W W' := by subst hn; exact all_any h
theorem stackBack_walk (a0 : Int) (a1 : Option Addr) (len1 cap1 : Nat) (z1 : List Int) (w : World) (w0 : (Lit.int .u8 a0).wf = true)
    (w1 : (a1 = none ∧ len1 = 0 ∧ cap1 = 0 ∧ z1 = []) ∨ ∃ x, a1 = some x ∧ len1 ≤ cap1 ∧ cap1 ≤ maxLen ∧ z1.length = cap1 ∧ (∀ i, i < z1.length → w.cell? (x.add i) = some (.int .u32 (z1.getD i 0))) ∧ ∀ n ∈ z1, (Lit.int .u32 n).wf = true) (y1 : len1 * 4 ≤ 140737488351232) :
    Calls Try.prog 4 #[.int .u8 a0, .slice a1 len1 cap1] w fun e w' => e = .returned (.bool true) ∧ Below w.heap.size w w' := by
  obtain ⟨h1, h2, h3, _⟩ := src_row w1
  have := wf_u8 w0
  exact (back_any w a0 this.1 this.2 a1 len1 cap1 _ h2 (by omega) h1 h3).mono fun e w' h => ⟨h.1, h.2.toBelow⟩
end Go.Proofs.Yteoghagknececaa
