-- WRITTEN BY xprint.py, a program of this session over the kit's print
import Derived.Test.YtnlmndafmgkcfaaProg
import Derived.Below
import Derived.Deep.Draws
import Derived.Deep.AppendLies
import Derived.Maps.AppendAt
import Derived.OwnWalk
import Derived.Laws.BytesArg
import Derived.Laws.MakeOwn
import Derived.Laws.OwnMore
import Derived.Deep.OwnRows
import Derived.Tactics
import Derived.Lib.ConvBytes
import Derived.Laws.Slices
import Derived.WalkKit
import Derived.KernelRfl
import Derived.RowKit3
import Derived.Deep.LoopGhost
import Derived.Deep.QuietTactic
import Derived.BigQuiet
import Derived.WideLaws
import Derived.Deep.DeepCutAuto
import Derived.Deep.CutBlock
import Derived.Deep.RegionHeld3
import Derived.Laws.Rows
import Derived.Lib.AppendStr
import Derived.ArgAppend
import Derived.Laws.IdiomCopy
import Derived.OrdersHeld
import Derived.Laws.BitsLemmas
import Derived.RowKit
import Derived.Test.YtnlmndafmgkcfaaX
import Derived.Test.YtnlmndafmgkcfaaWWords
import Derived.Test.YtnlmndafmgkcfaaWLast
import Derived.Test.YtnlmndafmgkcfaaWTab
import Derived.Test.YtnlmndafmgkcfaaWFour
import Derived.Test.YtnlmndafmgkcfaaWQPut
import Derived.Test.YtnlmndafmgkcfaaWApart
import Derived.Test.YtnlmndafmgkcfaaWArr
import Derived.Test.YtnlmndafmgkcfaaWZeros
import Derived.Test.YtnlmndafmgkcfaaWFoot
import Derived.Test.YtnlmndafmgkcfaaWKept
import Derived.Test.YtnlmndafmgkcfaaWShare
import Derived.Test.YtnlmndafmgkcfaaWN
import Derived.Test.YtnlmndafmgkcfaaWFootNe
import Derived.Test.YtnlmndafmgkcfaaWAt
import Derived.Test.YtnlmndafmgkcfaaWEqStruct
import Derived.Test.YtnlmndafmgkcfaaWRepsOne
import Derived.Test.YtnlmndafmgkcfaaWInv
import Derived.Test.YtnlmndafmgkcfaaWInvWords
import Derived.Test.YtnlmndafmgkcfaaWGuard
import Derived.Test.YtnlmndafmgkcfaaWNEv
import Derived.Test.YtnlmndafmgkcfaaWMore
namespace Go.Proofs.Ytnlmndafmgkcfaa.Print
open Go.RowKit Go.Proofs.YtnlmndafmgkcfaaW.PrintWords Go.Proofs.YtnlmndafmgkcfaaW.PrintLast Go.Proofs.YtnlmndafmgkcfaaW.PrintMore
attribute [local go_sem] max2_int min2_int max_two min_two max_three min_three max_four min_four   -- for this text's walks alone
open Go.Proofs.Ytnlmndafmgkcfaa.Ext
set_option linter.unusedVariables false
set_option linter.unusedSimpArgs false



def errW : Option Int → Value
  | none => .nilIface
  | some c => .iface 0 (.int .i64 c)
theorem errW_none : errW none = .nilIface := rfl
theorem errW_some (c : Int) : errW (some c) = .iface 0 (.int .i64 c) := rfl

theorem info5 : (Try.prog.info? 5).map (fun i => (i.zero, i.size, i.bytes)) = some (some (.int .u8 0), 1, 1) := by kernel_rfl
theorem info9 : (Try.prog.info? 9).map (fun i => (i.zero, i.size, i.bytes)) = some (some (.string ⟨#[]⟩), 1, 16) := by kernel_rfl
-- the values' own types

end Go.Proofs.Ytnlmndafmgkcfaa.Print
