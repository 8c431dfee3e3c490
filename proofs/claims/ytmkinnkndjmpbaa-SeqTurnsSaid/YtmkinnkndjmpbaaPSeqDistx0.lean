-- PRINTED BY print.sh 35421559b90ae4d0a3588c463048766b98c2df88dd9212a6774a882060cdf62d: not written by this session
import Derived.Test.YtmkinnkndjmpbaaProg
import Derived.Below
import Derived.Deep.Draws
import Derived.Deep.AppendLies
import Derived.Maps.AppendAt
import Derived.OwnWalk
import Derived.Laws.BytesArg
import Derived.Laws.MakeOwn
import Derived.Laws.OwnMore
import Derived.Deep.OwnRows
import Derived.Tactics
import Derived.Lib.ConvBytes
import Derived.Laws.Slices
import Derived.WalkKit
import Derived.KernelRfl
import Derived.RowKit3
import Derived.Deep.LoopGhost
import Derived.Deep.QuietTactic
import Derived.BigQuiet
import Derived.WideLaws
import Derived.Deep.DeepCutAuto
import Derived.Deep.CutBlock
import Derived.Deep.RegionHeld3
import Derived.Laws.Rows
import Derived.Lib.AppendStr
import Derived.ArgAppend
import Derived.Laws.IdiomCopy
import Derived.OrdersHeld
import Derived.Laws.BitsLemmas
import Derived.RowKit
import Derived.Test.YtmkinnkndjmpbaaWWords
import Derived.Test.YtmkinnkndjmpbaaWLast
import Derived.Test.YtmkinnkndjmpbaaWTab
import Derived.Test.YtmkinnkndjmpbaaWFour
import Derived.Test.YtmkinnkndjmpbaaWQPut
import Derived.Test.YtmkinnkndjmpbaaWApart
import Derived.Test.YtmkinnkndjmpbaaWArr
import Derived.Test.YtmkinnkndjmpbaaWZeros
import Derived.Test.YtmkinnkndjmpbaaWFoot
import Derived.Test.YtmkinnkndjmpbaaWKept
import Derived.Test.YtmkinnkndjmpbaaWShare
import Derived.Test.YtmkinnkndjmpbaaWN
import Derived.Test.YtmkinnkndjmpbaaWFootNe
import Derived.Test.YtmkinnkndjmpbaaWAt
import Derived.Test.YtmkinnkndjmpbaaWEqStruct
import Derived.Test.YtmkinnkndjmpbaaWRepsOne
import Derived.Test.YtmkinnkndjmpbaaWInv
import Derived.Test.YtmkinnkndjmpbaaWInvWords
import Derived.Test.YtmkinnkndjmpbaaWGuard
import Derived.Test.YtmkinnkndjmpbaaWNEv
import Derived.Test.YtmkinnkndjmpbaaWMore
namespace Go.Proofs.Ytmkinnkndjmpbaa.PSeqDist
open Go.RowKit Go.Proofs.YtmkinnkndjmpbaaW.PrintWords Go.Proofs.YtmkinnkndjmpbaaW.PrintLast Go.Proofs.YtmkinnkndjmpbaaW.PrintMore
attribute [local go_sem] max2_int min2_int max_two min_two max_three min_three max_four min_four   -- for this text's walks alone
set_option linter.unusedVariables false
set_option linter.unusedSimpArgs false



def errW : Option Int → Value
  | none => .nilIface
  | some c => .iface 0 (.int .i64 c)
theorem errW_none : errW none = .nilIface := rfl
theorem errW_some (c : Int) : errW (some c) = .iface 0 (.int .i64 c) := rfl

theorem info22 : (Try.prog.info? 22).map (fun i => (i.zero, i.size, i.bytes)) = some (some (.int .u32 0), 1, 4) := by kernel_rfl
-- the values' own types

end Go.Proofs.Ytmkinnkndjmpbaa.PSeqDist
