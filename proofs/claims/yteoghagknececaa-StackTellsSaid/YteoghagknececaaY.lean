/- StackTells as its row asks. -/
import Derived.Test.YteoghagknececaaX
import Derived.Deep.Slices
import Derived.Deep.Strs
import Derived.OpenShut
import Derived.ProofKit
namespace Go.Proofs.Yteoghagknececaa
set_option linter.unusedVariables false
open Go.RowKit Go.Proofs.YteoghagknececaaW.PrintWords

def OpsRow (W : World) (A : Option Addr) (len cap : Nat) : Prop :=
  len ≤ cap ∧ cap ≤ 9223372036854775807 ∧ ∀ i, i < len → ∃ x d n X lx cx ys, A = some x ∧ OpAt W (x.add (i * 3)) d n X lx cx ys
theorem ints_src {H : Type} {enc : TypeId × Value → H} {W : World} {base : Nat} {held : Bool} {fuel : Nat} {v : Value} {y : DataW H × List MemPlace} (h : DataW.trod enc Try.prog W base (fun _ => true) held fuel 28 [v] = some y) :
    ∃ X lx cx ys, v = .slice X lx cx ∧ lx ≤ cx ∧ cx ≤ 9223372036854775807 ∧ ys.length = lx ∧ Src W X cx ys := by
  rcases Go.ChangeShapes.open_ints Try.underlying28 Try.underlying40 (by kernel_rfl) h with ⟨hcs, _⟩ | ⟨x, l, c, zs, hcs, _, hl, hm, hz, _, hcell, hwz⟩
  · injection hcs with hv
    exact ⟨none, 0, 0, [], hv, Nat.le_refl _, by omega, rfl, ⟨fun _ => ⟨rfl, rfl⟩, fun ad ha => by cases ha⟩⟩
  · injection hcs with hv
    obtain ⟨h1, h2, h3, _⟩ := src_row (w := W) (A := some x) (len := l) (cap := c) (z := zs) (.inr ⟨x, rfl, hl, hm, by simpa using hz, hcell, hwz⟩)
    exact ⟨some x, l, c, _, hv, h1, hm, h2, h3⟩
theorem ops_row {H : Type} {enc : TypeId × Value → H} {W : World} {base : Nat} {held : Bool} {fuel : Nat} {A : Option Addr} {len cap : Nat} {y : DataW H × List MemPlace} (h : DataW.trod enc Try.prog W base (fun _ => true) held fuel 22 (Value.slice A len cap).cells.toList = some y) :
    OpsRow W A len cap := by
  have hcells : (Value.slice A len cap).cells.toList = [Value.slice A len cap] := by simp [Value.cells]
  rw [hcells] at h
  rcases Go.Deep.open_slice Try.underlying22 h with ⟨hcs, _⟩ | ⟨a, l, c, m, n, D, Pl, hcs, _, hl, hm, hmm, _, hi⟩
  · injection hcs with hv
    injection hv with h1 h2 h3
    subst h1 h2 h3
    exact ⟨Nat.le_refl _, by omega, fun i hi => by omega⟩
  · injection hcs with hv
    injection hv with h1 h2 h3
    subst h1 h2 h3
    refine ⟨hl, hm, fun i hil => ?_⟩
    simp only [if_true] at hmm
    obtain ⟨cs', hc, ht⟩ := hi i (by omega)
    rw [show Try.prog.cellsOf 36 = 3 by kernel_rfl] at hc
    obtain ⟨_, hlen, hat⟩ := World.cells?_some hc
    obtain ⟨y0, y1, y2, n', _, _, h0, h1, h2⟩ := Go.Deep.trod_struct3 Try.underlying36 ht
    dsimp only at h0 h1 h2
    rw [show Try.prog.cellsOf 5 = 1 by kernel_rfl] at h0
    rw [show Try.prog.cellsOf 3 = 1 by kernel_rfl] at h1
    rw [show Try.prog.cellsOf 28 = 1 by kernel_rfl] at h2
    match cs', hlen with
    | [v0, v1, v2], _ =>
      obtain ⟨d, e0, _, hd⟩ := DataW.trod_int Try.underlying5 h0
      obtain ⟨k, e1, _, hk⟩ := DataW.trod_int Try.underlying3 h1
      obtain ⟨X, lx, cx, ys, rfl, g1, g2, g3, g4⟩ := ints_src (show DataW.trod enc Try.prog W base (fun _ => true) held n' 28 [v2] = some y2 from h2)
      have f0 : v0 = .int .u8 d := by simpa using e0
      have f1 : v1 = .int .i64 k := by simpa using e1
      clear e0 e1 h0 h1 h2
      subst f0
      subst f1
      have q0 := wf_u8 hd
      have q1 := wf_i64 hk
      exact ⟨a, d, k, X, lx, cx, ys, rfl, ⟨hat 0 (by omega), hat 1 (by omega), hat 2 (by omega), q0.1, q0.2, q1.1, q1.2, g1, g2, g3, g4⟩⟩
theorem stackTells_walk (a0 a1 a2 : Int) (a3 : Option Addr) (len3 cap3 : Nat) (z3 : List Int) (a4 a5 : Int) (w : World) (w0 : (Lit.int .i64 a0).wf = true) (w1 : (Lit.int .i32 a1).wf = true) (w2 : (Lit.int .i32 a2).wf = true)
    (w3 : OpsRow w a3 len3 cap3) (y3 : True) (w4 : (Lit.int .i64 a4).wf = true) (w5 : (Lit.int .i64 a5).wf = true) :
    Calls Try.prog 3 #[.int .i64 a0, .int .i32 a1, .int .i32 a2, .slice a3 len3 cap3, .int .i64 a4, .int .i64 a5] w fun e w' => e = .returned (.bool true) ∧ Below w.heap.size w w' := by
  have q4 := wf_i64 w4
  exact (tells_law w a0 a1 a2 a3 len3 cap3 a4 a5 w3.1 w3.2.1 (by omega) w3.2.2).mono fun e w' h => ⟨h.1, h.2.toBelow⟩
end Go.Proofs.Yteoghagknececaa
