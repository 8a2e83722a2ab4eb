/-
  No cell of these rows narrows 'for every input' (looked for: loops, veiled, ifaces, maps, wideKeys, modest, calm, conditions, laid).
  DERIVED. THE GIVEN ROWS OF THIS SEAT. 6 by the template 'for every input the law returns true; each argument reads behind the call as it read before'; 0 by the template 'total and deterministic' (their statements: YteoghagknececaaTotals.lean).
  GIVEN WITH THE SEED: the statements are not yours to turn. If you find one false, say at which input.
  Laid BY PROGRAM, IN A SANDBOX (cutbox-rows.mjs): the forced cells as the released guide's own fill.sh prints them over the translation b129a32fd6d4931c… (all of the seat's roots in one cut). By AI agents, Wed Nov 11 2026. No macro, syntax, notation, axiom, sorry.
-/
import Derived.Test.YteoghagknececaaChecked
import GoSem.Claim
import GoSem.ClaimJoined
import GoSem.ClaimMapViews
import Derived.JoinedTies
import Derived.KernelRfl
namespace Go.Proofs.Yteoghagknececaa
/- THE CELL 'sum', in the pinned program and in every row, IS THE sha256 OF THE DUMP (.gsa) THAT YteoghagknececaaProg.lean LOADS. Nothing in Lean hashes anything: it is a label: what it is worth is what the hold of that sum in a sandbox is worth. -/
noncomputable def Try.pinned : Pinned := { name := "yteoghagknececaa", sum := "b129a32fd6d4931c2f36b261c5fceb4abce402c53979d8cdf02acdc717a9565c", checked := Try.checked }
namespace Rows
def none {H : Type} : Left H := { results := [], args := [] }

/-- 'lightshiplaw08.StackTells': WHATEVER THE INPUT: true; the input reads as it did. -/
def stackTellsSpec : ChangeSpec := { name := "stackTells", fn := fun _ => fun
  | [d1, d2, d3, d4, d5, d6] => { results := [.lit (.bool true)], args := [d1, d2, d3, d4, d5, d6] }
  | _ => none }
def stackTellsRow : OpenClaim := { program := "yteoghagknececaa", sum := "b129a32fd6d4931c2f36b261c5fceb4abce402c53979d8cdf02acdc717a9565c", func := "lightship/lightshiplaw08.StackTells", spec := "stackTells", apart := false }
def StackTellsSaid : Prop := stackTellsRow.holds Try.pinned (OpenSpec.ofChange stackTellsSpec)

/-- ITS FALSE NEIGHBOUR: 'it returns false'. Refute it at one input. -/
def stackTellsWrong : ChangeSpec := { name := "stackTells", fn := fun _ => fun
  | [d1, d2, d3, d4, d5, d6] => { results := [.lit (.bool false)], args := [d1, d2, d3, d4, d5, d6] }
  | _ => none }
def StackTellsWrongFalsely : Prop := stackTellsRow.holds Try.pinned (OpenSpec.ofChange stackTellsWrong)

/-- 'lightshiplaw08.StackBack': WHATEVER THE INPUT: true; the input reads as it did. -/
def stackBackSpec : ChangeSpec := { name := "stackBack", fn := fun _ => fun
  | [d1, d2] => { results := [.lit (.bool true)], args := [d1, d2] }
  | _ => none }
def stackBackRow : OpenClaim := { program := "yteoghagknececaa", sum := "b129a32fd6d4931c2f36b261c5fceb4abce402c53979d8cdf02acdc717a9565c", func := "lightship/lightshiplaw08.StackBack", spec := "stackBack", apart := false }
def StackBackSaid : Prop := stackBackRow.holds Try.pinned (OpenSpec.ofChange stackBackSpec)

/-- ITS FALSE NEIGHBOUR: 'it returns false'. Refute it at one input. -/
def stackBackWrong : ChangeSpec := { name := "stackBack", fn := fun _ => fun
  | [d1, d2] => { results := [.lit (.bool false)], args := [d1, d2] }
  | _ => none }
def StackBackWrongFalsely : Prop := stackBackRow.holds Try.pinned (OpenSpec.ofChange stackBackWrong)

/-- 'lightshiplaw08.StackRolls': WHATEVER THE INPUT: true; the input reads as it did. -/
def stackRollsSpec : ChangeSpec := { name := "stackRolls", fn := fun _ => fun
  | [d1, d2] => { results := [.lit (.bool true)], args := [d1, d2] }
  | _ => none }
def stackRollsRow : OpenClaim := { program := "yteoghagknececaa", sum := "b129a32fd6d4931c2f36b261c5fceb4abce402c53979d8cdf02acdc717a9565c", func := "lightship/lightshiplaw08.StackRolls", spec := "stackRolls", apart := false }
def StackRollsSaid : Prop := stackRollsRow.holds Try.pinned (OpenSpec.ofChange stackRollsSpec)

/-- ITS FALSE NEIGHBOUR: 'it returns false'. Refute it at one input. -/
def stackRollsWrong : ChangeSpec := { name := "stackRolls", fn := fun _ => fun
  | [d1, d2] => { results := [.lit (.bool false)], args := [d1, d2] }
  | _ => none }
def StackRollsWrongFalsely : Prop := stackRollsRow.holds Try.pinned (OpenSpec.ofChange stackRollsWrong)

/-- 'lightshiplaw08.StackMay': WHATEVER THE INPUT: true; the input reads as it did. -/
def stackMaySpec : ChangeSpec := { name := "stackMay", fn := fun _ => fun
  | [d1, d2, d3, d4] => { results := [.lit (.bool true)], args := [d1, d2, d3, d4] }
  | _ => none }
def stackMayRow : OpenClaim := { program := "yteoghagknececaa", sum := "b129a32fd6d4931c2f36b261c5fceb4abce402c53979d8cdf02acdc717a9565c", func := "lightship/lightshiplaw08.StackMay", spec := "stackMay", apart := false }
def StackMaySaid : Prop := stackMayRow.holds Try.pinned (OpenSpec.ofChange stackMaySpec)

/-- ITS FALSE NEIGHBOUR: 'it returns false'. Refute it at one input. -/
def stackMayWrong : ChangeSpec := { name := "stackMay", fn := fun _ => fun
  | [d1, d2, d3, d4] => { results := [.lit (.bool false)], args := [d1, d2, d3, d4] }
  | _ => none }
def StackMayWrongFalsely : Prop := stackMayRow.holds Try.pinned (OpenSpec.ofChange stackMayWrong)

/-- 'lightshiplaw08.StackCut': WHATEVER THE INPUT: true; the input reads as it did. -/
def stackCutSpec : ChangeSpec := { name := "stackCut", fn := fun _ => fun
  | [d1, d2] => { results := [.lit (.bool true)], args := [d1, d2] }
  | _ => none }
def stackCutRow : OpenClaim := { program := "yteoghagknececaa", sum := "b129a32fd6d4931c2f36b261c5fceb4abce402c53979d8cdf02acdc717a9565c", func := "lightship/lightshiplaw08.StackCut", spec := "stackCut", apart := false }
def StackCutSaid : Prop := stackCutRow.holds Try.pinned (OpenSpec.ofChange stackCutSpec)

/-- ITS FALSE NEIGHBOUR: 'it returns false'. Refute it at one input. -/
def stackCutWrong : ChangeSpec := { name := "stackCut", fn := fun _ => fun
  | [d1, d2] => { results := [.lit (.bool false)], args := [d1, d2] }
  | _ => none }
def StackCutWrongFalsely : Prop := stackCutRow.holds Try.pinned (OpenSpec.ofChange stackCutWrong)

/-- 'lightshiplaw08.StackNone': WHATEVER THE INPUT: true; the input reads as it did. -/
def stackNoneSpec : ChangeSpec := { name := "stackNone", fn := fun _ => fun
  | [d1, d2] => { results := [.lit (.bool true)], args := [d1, d2] }
  | _ => none }
def stackNoneRow : OpenClaim := { program := "yteoghagknececaa", sum := "b129a32fd6d4931c2f36b261c5fceb4abce402c53979d8cdf02acdc717a9565c", func := "lightship/lightshiplaw08.StackNone", spec := "stackNone", apart := false }
def StackNoneSaid : Prop := stackNoneRow.holds Try.pinned (OpenSpec.ofChange stackNoneSpec)

/-- ITS FALSE NEIGHBOUR: 'it returns false'. Refute it at one input. -/
def stackNoneWrong : ChangeSpec := { name := "stackNone", fn := fun _ => fun
  | [d1, d2] => { results := [.lit (.bool false)], args := [d1, d2] }
  | _ => none }
def StackNoneWrongFalsely : Prop := stackNoneRow.holds Try.pinned (OpenSpec.ofChange stackNoneWrong)

/- THE SECOND FORM. 'bulk': how many values and letters a reading holds, each counted each time it is reached (what is shared counts as often as it is met; a slice's spare places count too). A statement '..UptoSaid' is the law's where the arguments, and the package variables that the reading takes, are together of bulk at most 1048576: NARROWER than '..Said'. Prove '..Said' where nothing that the law and all that it calls make is longer than what came in: it says more and counts as full. Else prove '..UptoSaid'. A law counts once. -/
mutual
def uptoBulk {H : Type} : DataW H → Nat
  | .lit (.string bytes) => bytes.length + 1
  | .lit _ => 1
  | .nil => 1
  | .ptr d => uptoBulk d + 1
  | .slice elems spare => uptoBulkAll elems + uptoBulkAll spare + 1
  | .agg parts => uptoBulkAll parts + 1
  | .iface _ d => uptoBulk d + 1
  | .map entries => uptoBulkEntries entries + 1
  | .held _ => 1
def uptoBulkAll {H : Type} : List (DataW H) → Nat
  | [] => 0
  | d :: r => uptoBulk d + uptoBulkAll r
def uptoBulkEntries {H : Type} : List (Lit × DataW H) → Nat
  | [] => 0
  | x :: r => uptoBulkEntry x + uptoBulkEntries r
def uptoBulkEntry {H : Type} : Lit × DataW H → Nat
  | (.string bytes, d) => bytes.length + uptoBulk d + 1
  | (_, d) => uptoBulk d + 1
 end
def uptoSmall : (H : Type) → List (DataW H) → Bool := fun _ ds => decide (uptoBulkAll ds ≤ 1048576)
def OpenSpec.upto (s : _root_.Go.ChangeSpec) : _root_.Go.OpenSpec := { _root_.Go.OpenSpec.ofChange s with cond := some uptoSmall }

/-- 'lightshiplaw08.StackTells', WHERE WHAT IT READS IS OF BULK AT MOST 1048576: true; the input reads as it did. -/
def stackTellsUptoRow : OpenClaim := { program := "yteoghagknececaa", sum := "b129a32fd6d4931c2f36b261c5fceb4abce402c53979d8cdf02acdc717a9565c", func := "lightship/lightshiplaw08.StackTells", spec := "stackTells", apart := false, narrowed := true }
def StackTellsUptoSaid : Prop := stackTellsUptoRow.holds Try.pinned (OpenSpec.upto stackTellsSpec)

/-- 'lightshiplaw08.StackBack', WHERE WHAT IT READS IS OF BULK AT MOST 1048576: true; the input reads as it did. -/
def stackBackUptoRow : OpenClaim := { program := "yteoghagknececaa", sum := "b129a32fd6d4931c2f36b261c5fceb4abce402c53979d8cdf02acdc717a9565c", func := "lightship/lightshiplaw08.StackBack", spec := "stackBack", apart := false, narrowed := true }
def StackBackUptoSaid : Prop := stackBackUptoRow.holds Try.pinned (OpenSpec.upto stackBackSpec)

/-- 'lightshiplaw08.StackRolls', WHERE WHAT IT READS IS OF BULK AT MOST 1048576: true; the input reads as it did. -/
def stackRollsUptoRow : OpenClaim := { program := "yteoghagknececaa", sum := "b129a32fd6d4931c2f36b261c5fceb4abce402c53979d8cdf02acdc717a9565c", func := "lightship/lightshiplaw08.StackRolls", spec := "stackRolls", apart := false, narrowed := true }
def StackRollsUptoSaid : Prop := stackRollsUptoRow.holds Try.pinned (OpenSpec.upto stackRollsSpec)

/-- 'lightshiplaw08.StackMay', WHERE WHAT IT READS IS OF BULK AT MOST 1048576: true; the input reads as it did. -/
def stackMayUptoRow : OpenClaim := { program := "yteoghagknececaa", sum := "b129a32fd6d4931c2f36b261c5fceb4abce402c53979d8cdf02acdc717a9565c", func := "lightship/lightshiplaw08.StackMay", spec := "stackMay", apart := false, narrowed := true }
def StackMayUptoSaid : Prop := stackMayUptoRow.holds Try.pinned (OpenSpec.upto stackMaySpec)

/-- 'lightshiplaw08.StackCut', WHERE WHAT IT READS IS OF BULK AT MOST 1048576: true; the input reads as it did. -/
def stackCutUptoRow : OpenClaim := { program := "yteoghagknececaa", sum := "b129a32fd6d4931c2f36b261c5fceb4abce402c53979d8cdf02acdc717a9565c", func := "lightship/lightshiplaw08.StackCut", spec := "stackCut", apart := false, narrowed := true }
def StackCutUptoSaid : Prop := stackCutUptoRow.holds Try.pinned (OpenSpec.upto stackCutSpec)

/-- 'lightshiplaw08.StackNone', WHERE WHAT IT READS IS OF BULK AT MOST 1048576: true; the input reads as it did. -/
def stackNoneUptoRow : OpenClaim := { program := "yteoghagknececaa", sum := "b129a32fd6d4931c2f36b261c5fceb4abce402c53979d8cdf02acdc717a9565c", func := "lightship/lightshiplaw08.StackNone", spec := "stackNone", apart := false, narrowed := true }
def StackNoneUptoSaid : Prop := stackNoneUptoRow.holds Try.pinned (OpenSpec.upto stackNoneSpec)

end Rows
end Go.Proofs.Yteoghagknececaa
