-- PRINTED BY print.sh 35421559b90ae4d0a3588c463048766b98c2df88dd9212a6774a882060cdf62d: not written by this session
import Derived.Test.YteoghagknececaaProg
import Derived.Below
import Derived.Deep.Draws
import Derived.Deep.AppendLies
import Derived.Maps.AppendAt
import Derived.OwnWalk
import Derived.Laws.BytesArg
import Derived.Laws.MakeOwn
import Derived.Laws.OwnMore
import Derived.Deep.OwnRows
import Derived.Tactics
import Derived.Lib.ConvBytes
import Derived.Laws.Slices
import Derived.WalkKit
import Derived.KernelRfl
import Derived.RowKit3
import Derived.Deep.LoopGhost
import Derived.Deep.QuietTactic
import Derived.BigQuiet
import Derived.WideLaws
import Derived.Deep.DeepCutAuto
import Derived.Deep.CutBlock
import Derived.Deep.RegionHeld3
import Derived.Laws.Rows
import Derived.Lib.AppendStr
import Derived.ArgAppend
import Derived.Laws.IdiomCopy
import Derived.OrdersHeld
import Derived.Laws.BitsLemmas
import Derived.RowKit
import Derived.Test.YteoghagknececaaWWords
import Derived.Test.YteoghagknececaaWLast
import Derived.Test.YteoghagknececaaWTab
import Derived.Test.YteoghagknececaaWFour
import Derived.Test.YteoghagknececaaWQPut
import Derived.Test.YteoghagknececaaWApart
import Derived.Test.YteoghagknececaaWArr
import Derived.Test.YteoghagknececaaWZeros
import Derived.Test.YteoghagknececaaWFoot
import Derived.Test.YteoghagknececaaWKept
import Derived.Test.YteoghagknececaaWShare
import Derived.Test.YteoghagknececaaWN
import Derived.Test.YteoghagknececaaWFootNe
import Derived.Test.YteoghagknececaaWAt
import Derived.Test.YteoghagknececaaWEqStruct
import Derived.Test.YteoghagknececaaWRepsOne
import Derived.Test.YteoghagknececaaWInv
import Derived.Test.YteoghagknececaaWInvWords
import Derived.Test.YteoghagknececaaWGuard
import Derived.Test.YteoghagknececaaWNEv
import Derived.Test.YteoghagknececaaWMore
namespace Go.Proofs.Yteoghagknececaa.PStackTells
open Go.RowKit Go.Proofs.YteoghagknececaaW.PrintWords Go.Proofs.YteoghagknececaaW.PrintLast Go.Proofs.YteoghagknececaaW.PrintMore
attribute [local go_sem] max2_int min2_int max_two min_two max_three min_three max_four min_four   -- for this text's walks alone
set_option linter.unusedVariables false
set_option linter.unusedSimpArgs false



def errW : Option Int → Value
  | none => .nilIface
  | some c => .iface 0 (.int .i64 c)
theorem errW_none : errW none = .nilIface := rfl
theorem errW_some (c : Int) : errW (some c) = .iface 0 (.int .i64 c) := rfl

theorem info40 : (Try.prog.info? 40).map (fun i => (i.zero, i.size, i.bytes)) = some (some (.int .u32 0), 1, 4) := by kernel_rfl
-- the values' own types

end Go.Proofs.Yteoghagknececaa.PStackTells
