-- PRINTED BY print.sh 35421559b90ae4d0a3588c463048766b98c2df88dd9212a6774a882060cdf62d: not written by this session
import Derived.Test.YtjljicfolmdkfaaProg
import Derived.Below
import Derived.Deep.Draws
import Derived.Deep.AppendLies
import Derived.Maps.AppendAt
import Derived.OwnWalk
import Derived.Laws.BytesArg
import Derived.Laws.MakeOwn
import Derived.Laws.OwnMore
import Derived.Deep.OwnRows
import Derived.Tactics
import Derived.Lib.ConvBytes
import Derived.Laws.Slices
import Derived.WalkKit
import Derived.KernelRfl
import Derived.RowKit3
import Derived.Deep.LoopGhost
import Derived.Deep.QuietTactic
import Derived.BigQuiet
import Derived.WideLaws
import Derived.Deep.DeepCutAuto
import Derived.Deep.CutBlock
import Derived.Deep.RegionHeld3
import Derived.Laws.Rows
import Derived.Lib.AppendStr
import Derived.ArgAppend
import Derived.Laws.IdiomCopy
import Derived.OrdersHeld
import Derived.Laws.BitsLemmas
import Derived.RowKit
import Derived.Test.YtjljicfolmdkfaaWWords
import Derived.Test.YtjljicfolmdkfaaWLast
import Derived.Test.YtjljicfolmdkfaaWTab
import Derived.Test.YtjljicfolmdkfaaWFour
import Derived.Test.YtjljicfolmdkfaaWQPut
import Derived.Test.YtjljicfolmdkfaaWApart
import Derived.Test.YtjljicfolmdkfaaWArr
import Derived.Test.YtjljicfolmdkfaaWZeros
import Derived.Test.YtjljicfolmdkfaaWFoot
import Derived.Test.YtjljicfolmdkfaaWKept
import Derived.Test.YtjljicfolmdkfaaWShare
import Derived.Test.YtjljicfolmdkfaaWN
import Derived.Test.YtjljicfolmdkfaaWFootNe
import Derived.Test.YtjljicfolmdkfaaWAt
import Derived.Test.YtjljicfolmdkfaaWEqStruct
import Derived.Test.YtjljicfolmdkfaaWRepsOne
import Derived.Test.YtjljicfolmdkfaaWInv
import Derived.Test.YtjljicfolmdkfaaWInvWords
import Derived.Test.YtjljicfolmdkfaaWGuard
import Derived.Test.YtjljicfolmdkfaaWNEv
import Derived.Test.YtjljicfolmdkfaaWMore
namespace Go.Proofs.Ytjljicfolmdkfaa.PFnExactXorTexts
open Go.RowKit Go.Proofs.YtjljicfolmdkfaaW.PrintWords Go.Proofs.YtjljicfolmdkfaaW.PrintLast Go.Proofs.YtjljicfolmdkfaaW.PrintMore
attribute [local go_sem] max2_int min2_int max_two min_two max_three min_three max_four min_four   -- for this text's walks alone
set_option linter.unusedVariables false
set_option linter.unusedSimpArgs false



def errW : Option Int → Value
  | none => .nilIface
  | some c => .iface 0 (.int .i64 c)
theorem errW_none : errW none = .nilIface := rfl
theorem errW_some (c : Int) : errW (some c) = .iface 0 (.int .i64 c) := rfl

theorem info5 : (Try.prog.info? 5).map (fun i => (i.zero, i.size, i.bytes)) = some (some (.int .u8 0), 1, 1) := by kernel_rfl
-- the values' own types

end Go.Proofs.Ytjljicfolmdkfaa.PFnExactXorTexts
