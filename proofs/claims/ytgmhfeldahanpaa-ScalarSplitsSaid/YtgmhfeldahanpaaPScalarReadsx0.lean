-- PRINTED BY print.sh 35421559b90ae4d0a3588c463048766b98c2df88dd9212a6774a882060cdf62d: not written by this session
import Derived.Test.YtgmhfeldahanpaaProg
import Derived.Below
import Derived.Deep.Draws
import Derived.Deep.AppendLies
import Derived.Maps.AppendAt
import Derived.OwnWalk
import Derived.Laws.BytesArg
import Derived.Laws.MakeOwn
import Derived.Laws.OwnMore
import Derived.Deep.OwnRows
import Derived.Tactics
import Derived.Lib.ConvBytes
import Derived.Laws.Slices
import Derived.WalkKit
import Derived.KernelRfl
import Derived.RowKit3
import Derived.Deep.LoopGhost
import Derived.Deep.QuietTactic
import Derived.BigQuiet
import Derived.WideLaws
import Derived.Deep.DeepCutAuto
import Derived.Deep.CutBlock
import Derived.Deep.RegionHeld3
import Derived.Laws.Rows
import Derived.Lib.AppendStr
import Derived.ArgAppend
import Derived.Laws.IdiomCopy
import Derived.OrdersHeld
import Derived.Laws.BitsLemmas
import Derived.RowKit
import Derived.Test.YtgmhfeldahanpaaWWords
import Derived.Test.YtgmhfeldahanpaaWLast
import Derived.Test.YtgmhfeldahanpaaWTab
import Derived.Test.YtgmhfeldahanpaaWFour
import Derived.Test.YtgmhfeldahanpaaWQPut
import Derived.Test.YtgmhfeldahanpaaWApart
import Derived.Test.YtgmhfeldahanpaaWArr
import Derived.Test.YtgmhfeldahanpaaWZeros
import Derived.Test.YtgmhfeldahanpaaWFoot
import Derived.Test.YtgmhfeldahanpaaWKept
import Derived.Test.YtgmhfeldahanpaaWShare
import Derived.Test.YtgmhfeldahanpaaWN
import Derived.Test.YtgmhfeldahanpaaWFootNe
import Derived.Test.YtgmhfeldahanpaaWAt
import Derived.Test.YtgmhfeldahanpaaWEqStruct
import Derived.Test.YtgmhfeldahanpaaWRepsOne
import Derived.Test.YtgmhfeldahanpaaWInv
import Derived.Test.YtgmhfeldahanpaaWInvWords
import Derived.Test.YtgmhfeldahanpaaWGuard
import Derived.Test.YtgmhfeldahanpaaWNEv
import Derived.Test.YtgmhfeldahanpaaWMore
namespace Go.Proofs.Ytgmhfeldahanpaa.PScalarReads
open Go.RowKit Go.Proofs.YtgmhfeldahanpaaW.PrintWords Go.Proofs.YtgmhfeldahanpaaW.PrintLast Go.Proofs.YtgmhfeldahanpaaW.PrintMore
attribute [local go_sem] max2_int min2_int max_two min_two max_three min_three max_four min_four   -- for this text's walks alone
set_option linter.unusedVariables false
set_option linter.unusedSimpArgs false



def errW : Option Int → Value
  | none => .nilIface
  | some c => .iface 0 (.int .i64 c)
theorem errW_none : errW none = .nilIface := rfl
theorem errW_some (c : Int) : errW (some c) = .iface 0 (.int .i64 c) := rfl

theorem info21 : (Try.prog.info? 21).map (fun i => (i.zero, i.size, i.bytes)) = some (some (.int .i32 0), 1, 4) := by kernel_rfl
-- the values' own types

end Go.Proofs.Ytgmhfeldahanpaa.PScalarReads
