/- MemBack as its row asks. -/
import Derived.Test.YtpainiehceniiaaY
import Derived.Deep.Slices
import Derived.Deep.Strs
import Derived.OpenShut
import Derived.ProofKit
namespace Go.Proofs.Ytpainiehceniiaa
set_option linter.unusedVariables false
open Go.RowKit Go.Proofs.YtpainiehceniiaaW.PrintWords

def PairsRow (W : World) (A : Option Addr) (len cap : Nat) : Prop :=
  len ≤ cap ∧ cap ≤ 9223372036854775807 ∧ ∀ i, i < len → ∃ x a b, A = some x ∧ PairAt W (x.add (i * 2)) a b
theorem pairs_row {H : Type} {enc : TypeId × Value → H} {W : World} {base : Nat} {held : Bool} {fuel : Nat} {A : Option Addr} {len cap : Nat} {y : DataW H × List MemPlace} (h : DataW.trod enc Try.prog W base (fun _ => true) held fuel 59 (Value.slice A len cap).cells.toList = some y) :
    PairsRow W A len cap := by
  have hcells : (Value.slice A len cap).cells.toList = [Value.slice A len cap] := by simp [Value.cells]
  rw [hcells] at h
  rcases Go.Deep.open_slice Try.underlying59 h with ⟨hcs, _⟩ | ⟨a, l, c, m, n, D, Pl, hcs, _, hl, hm, hmm, _, hi⟩
  · injection hcs with hv
    injection hv with h1 h2 h3
    subst h1 h2 h3
    exact ⟨Nat.le_refl _, by omega, fun i hi => by omega⟩
  · injection hcs with hv
    injection hv with h1 h2 h3
    subst h1 h2 h3
    refine ⟨hl, hm, fun i hil => ?_⟩
    simp only [if_true] at hmm
    obtain ⟨cs', hc, ht⟩ := hi i (by omega)
    rw [show Try.prog.cellsOf 60 = 2 by kernel_rfl] at hc
    obtain ⟨_, hlen, hat⟩ := World.cells?_some hc
    obtain ⟨xs, k, _, _, _, hxl, hx⟩ := DataW.trod_array Try.underlying60 ht
    have h0 := hx 0 (by decide)
    have h1 := hx 1 (by decide)
    rw [show Try.prog.cellsOf 32 = 1 by kernel_rfl] at h0 h1
    rw [List.getElem?_eq_getElem (by omega)] at h0 h1
    match cs', hlen with
    | [v0, v1], _ =>
      obtain ⟨d, e0, _, hd⟩ := DataW.trod_int Try.underlying32 h0
      obtain ⟨k, e1, _, hk⟩ := DataW.trod_int Try.underlying32 h1
      have f0 : v0 = .int .u32 d := by simpa using e0
      have f1 : v1 = .int .u32 k := by simpa using e1
      clear e0 e1 h0 h1 hx
      subst f0
      subst f1
      have q0 := wf_u32 hd
      have q1 := wf_u32 hk
      exact ⟨a, d, k, rfl, ⟨hat 0 (by omega), hat 1 (by omega), q0.1, q0.2, q1.1, q1.2⟩⟩
theorem memBack_walk (a0 : Int) (a1 : Option Addr) (len1 cap1 : Nat) (z1 : List Int) (a2 : Option Addr) (len2 cap2 : Nat) (z2 : List Int) (a3 a4 : Int) (w : World)
    (w0 : (Lit.int .u8 a0).wf = true)
    (w1 : (a1 = none ∧ len1 = 0 ∧ cap1 = 0 ∧ z1 = []) ∨ ∃ x, a1 = some x ∧ len1 ≤ cap1 ∧ cap1 ≤ maxLen ∧ z1.length = cap1 ∧ (∀ i, i < z1.length → w.cell? (x.add i) = some (.int .u8 (z1.getD i 0))) ∧ ∀ n ∈ z1, (Lit.int .u8 n).wf = true) (y1 : len1 * 1 ≤ 140737488351232)
    (w2 : PairsRow w a2 len2 cap2) (y2 : True)
    (w3 : (Lit.int .u32 a3).wf = true) (w4 : (Lit.int .u32 a4).wf = true) :
    Calls Try.prog 5 #[.int .u8 a0, .slice a1 len1 cap1, .slice a2 len2 cap2, .int .u32 a3, .int .u32 a4] w fun e w' => e = .returned (.bool true) ∧ Below w.heap.size w w' := by
  obtain ⟨h1, h2, h3, _, h5⟩ := src_row w1
  have q0 := wf_u8 w0
  have q3 := wf_u32 w3
  have q4 := wf_u32 w4
  exact (back_law w a0 a1 len1 cap1 _ a2 len2 cap2 a3 a4 q0.1 q0.2 h2 (by omega) h1 h3 h5 w2.1 w2.2.1 w2.2.2 q3.1 q3.2 q4.1 q4.2).mono fun e w' h => ⟨h.1, h.2.toBelow⟩
end Go.Proofs.Ytpainiehceniiaa
