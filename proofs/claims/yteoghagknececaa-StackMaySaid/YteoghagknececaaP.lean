/- StackMay as its row asks. -/
import Derived.Test.YteoghagknececaaO
namespace Go.Proofs.Yteoghagknececaa
open Go.RowKit Go.Proofs.YteoghagknececaaW.PrintWords Go.Proofs.YteoghagknececaaW.PrintMore

theorem stackMay_walk (a0 : Int) (a1 : Option Addr) (len1 cap1 : Nat) (z1 : List Int) (a2 a3 : Int) (w : World) (w0 : (Lit.int .u8 a0).wf = true)
    (w1 : (a1 = none ∧ len1 = 0 ∧ cap1 = 0 ∧ z1 = []) ∨ ∃ x, a1 = some x ∧ len1 ≤ cap1 ∧ cap1 ≤ maxLen ∧ z1.length = cap1 ∧ (∀ i, i < z1.length → w.cell? (x.add i) = some (.int .u32 (z1.getD i 0))) ∧ ∀ n ∈ z1, (Lit.int .u32 n).wf = true) (y1 : len1 * 4 ≤ 140737488351232)
    (w2 : (Lit.int .u8 a2).wf = true) (w3 : (Lit.int .u8 a3).wf = true) :
    Calls Try.prog 6 #[.int .u8 a0, .slice a1 len1 cap1, .int .u8 a2, .int .u8 a3] w fun e w' => e = .returned (.bool true) ∧ Below w.heap.size w w' := by
  obtain ⟨h1, h2, h3, _⟩ := src_row w1
  have k0 := wf_u8 w0
  have k2 := wf_u8 w2
  have k3 := wf_u8 w3
  exact (may_law w a0 k0.1 k0.2 a1 len1 cap1 _ h2 (by omega) h1 h3 a2 a3 k2.1 k2.2 k3.1 k3.2).mono fun e w' h => ⟨h.1, h.2.toBelow⟩
end Go.Proofs.Yteoghagknececaa
