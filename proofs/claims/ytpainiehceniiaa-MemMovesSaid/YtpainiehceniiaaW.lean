/- MemMoves as its row asks. -/
import Derived.Test.YtpainiehceniiaaV
namespace Go.Proofs.Ytpainiehceniiaa
open Go.RowKit Go.Shelf Go.Proofs.YtpainiehceniiaaW.PrintWords

theorem memMoves_walk (a0 : Int) (a1 : Option Addr) (len1 cap1 : Nat) (z1 : List Int) (a2 : Option Addr) (len2 cap2 : Nat) (z2 : List Int) (a3 a4 a5 : Int) (a6 : Bool) (w : World)
    (w0 : (Lit.int .u8 a0).wf = true)
    (w1 : (a1 = none ∧ len1 = 0 ∧ cap1 = 0 ∧ z1 = []) ∨ ∃ x, a1 = some x ∧ len1 ≤ cap1 ∧ cap1 ≤ maxLen ∧ z1.length = cap1 ∧ (∀ i, i < z1.length → w.cell? (x.add i) = some (.int .u8 (z1.getD i 0))) ∧ ∀ n ∈ z1, (Lit.int .u8 n).wf = true) (y1 : len1 * 1 ≤ 140737488351232)
    (w2 : (a2 = none ∧ len2 = 0 ∧ cap2 = 0 ∧ z2 = []) ∨ ∃ x, a2 = some x ∧ len2 ≤ cap2 ∧ cap2 ≤ maxLen ∧ z2.length = cap2 ∧ (∀ i, i < z2.length → w.cell? (x.add i) = some (.int .u8 (z2.getD i 0))) ∧ ∀ n ∈ z2, (Lit.int .u8 n).wf = true) (y2 : len2 * 1 ≤ 140737488351232)
    (w3 : (Lit.int .u16 a3).wf = true) (w4 : (Lit.int .u16 a4).wf = true) (w5 : (Lit.int .u16 a5).wf = true) :
    Calls Try.prog 6 #[.int .u8 a0, .slice a1 len1 cap1, .slice a2 len2 cap2, .int .u16 a3, .int .u16 a4, .int .u16 a5, .bool a6] w fun e w' => e = .returned (.bool true) ∧ Below w.heap.size w w' := by
  obtain ⟨h1, h2, h3, _, h5⟩ := src_row w1
  obtain ⟨k1, k2, k3, _, k5⟩ := src_row w2
  have q0 := wf_u8 w0
  have q3 := wf_u16 w3
  have q4 := wf_u16 w4
  have q5 := wf_u16 w5
  exact (moves_law w a0 a1 a2 len1 cap1 len2 cap2 _ _ a3 a4 a5 a6 q0.1 q0.2 h2 (by omega) h1 h3 k2 (by omega) k1 k3 h5 q3.1 q3.2 q4.1 q4.2 q5.1 q5.2).mono fun e w' h => ⟨h.1, h.2.toBelow⟩
end Go.Proofs.Ytpainiehceniiaa
