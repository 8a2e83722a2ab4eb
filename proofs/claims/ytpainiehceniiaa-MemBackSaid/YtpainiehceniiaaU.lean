/- MemWindow as its row asks. -/
import Derived.Test.YtpainiehceniiaaT
namespace Go.Proofs.Ytpainiehceniiaa
open Go.RowKit Go.Shelf Go.Proofs.YtpainiehceniiaaW.PrintWords

theorem src_row {w : World} {A : Option Addr} {len cap : Nat} {z : List Int} (h : (A = none ∧ len = 0 ∧ cap = 0 ∧ z = []) ∨ ∃ x, A = some x ∧ len ≤ cap ∧ cap ≤ maxLen ∧ z.length = cap ∧ (∀ i, i < z.length → w.cell? (x.add i) = some (.int .u8 (z.getD i 0))) ∧ ∀ n ∈ z, (Lit.int .u8 n).wf = true) :
    len ≤ cap ∧ (z.take len).length = len ∧ Src w A (z.take len) ∧ (∀ x ∈ z.take len, 0 ≤ x ∧ x ≤ 255) ∧ (A = none → cap = 0) := by
  rcases h with ⟨rfl, rfl, rfl, rfl⟩ | ⟨x, rfl, h1, h2, h3, h4, h5⟩
  · exact ⟨Nat.le_refl _, rfl, Src.nil, by simp, fun _ => rfl⟩
  · refine ⟨h1, by simp; omega, ⟨fun ha => (by cases ha), fun ad ha j u hu => ?_⟩, fun y hy => wf_u8 (h5 y (List.mem_of_mem_take hy)), fun ha => (by cases ha)⟩
    injection ha with ha
    subst ha
    rw [List.map_take, List.getElem?_take] at hu
    split at hu
    · rename_i hj
      rw [h4 j (by omega)]
      rw [List.getElem?_map, List.getElem?_eq_getElem (by omega)] at hu
      rw [List.getD_eq_getElem?_getD, List.getElem?_eq_getElem (by omega)]
      exact hu
    · cases hu
theorem memWindow_walk (a0 : Option Addr) (len0 cap0 : Nat) (z0 : List Int) (a1 a2 : Int) (a3 : Option Addr) (len3 cap3 : Nat) (z3 : List Int) (w : World)
    (w0 : (a0 = none ∧ len0 = 0 ∧ cap0 = 0 ∧ z0 = []) ∨ ∃ x, a0 = some x ∧ len0 ≤ cap0 ∧ cap0 ≤ maxLen ∧ z0.length = cap0 ∧ (∀ i, i < z0.length → w.cell? (x.add i) = some (.int .u8 (z0.getD i 0))) ∧ ∀ n ∈ z0, (Lit.int .u8 n).wf = true) (y0 : len0 * 1 ≤ 140737488351232)
    (w1 : (Lit.int .u16 a1).wf = true) (w2 : (Lit.int .u32 a2).wf = true)
    (w3 : (a3 = none ∧ len3 = 0 ∧ cap3 = 0 ∧ z3 = []) ∨ ∃ x, a3 = some x ∧ len3 ≤ cap3 ∧ cap3 ≤ maxLen ∧ z3.length = cap3 ∧ (∀ i, i < z3.length → w.cell? (x.add i) = some (.int .u8 (z3.getD i 0))) ∧ ∀ n ∈ z3, (Lit.int .u8 n).wf = true) (y3 : len3 * 1 ≤ 140737488351232) :
    Calls Try.prog 7 #[.slice a0 len0 cap0, .int .u16 a1, .int .u32 a2, .slice a3 len3 cap3] w fun e w' => e = .returned (.bool true) ∧ Below w.heap.size w w' := by
  obtain ⟨h1, h2, h3, _, h5⟩ := src_row w0
  obtain ⟨k1, k2, k3, _, k5⟩ := src_row w3
  have q1 := wf_u16 w1
  have q2 := wf_u32 w2
  exact (window_law w a0 a3 len0 cap0 len3 cap3 _ _ a1 a2 h2 (by omega) h1 h3 k2 (by omega) k1 k3 h5 k5 q1.1 q1.2 q2.1 q2.2).mono fun e w' h => ⟨h.1, h.2.toBelow⟩
end Go.Proofs.Ytpainiehceniiaa
