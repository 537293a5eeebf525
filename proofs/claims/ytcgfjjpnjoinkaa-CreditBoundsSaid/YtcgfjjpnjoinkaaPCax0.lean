-- Written by gprint.py, this session's own program, out of Lean's print of the translation: functions with the same answers, and proofs that the Go code comes to them. Lean checks it all.
import Derived.Test.YtcgfjjpnjoinkaaProg
import Derived.Below
import Derived.Deep.Draws
import Derived.Deep.AppendLies
import Derived.Maps.AppendAt
import Derived.OwnWalk
import Derived.Laws.BytesArg
import Derived.Laws.MakeOwn
import Derived.Laws.OwnMore
import Derived.Deep.OwnRows
import Derived.Tactics
import Derived.Lib.ConvBytes
import Derived.Laws.Slices
import Derived.WalkKit
import Derived.KernelRfl
import Derived.RowKit3
import Derived.Deep.LoopGhost
import Derived.Deep.QuietTactic
import Derived.BigQuiet
import Derived.WideLaws
import Derived.Deep.DeepCutAuto
import Derived.Deep.CutBlock
import Derived.Deep.RegionHeld3
import Derived.Laws.Rows
import Derived.Lib.AppendStr
import Derived.ArgAppend
import Derived.Laws.IdiomCopy
import Derived.OrdersHeld
import Derived.Laws.BitsLemmas
import Derived.RowKit
import Derived.Test.YtcgfjjpnjoinkaaWWords
import Derived.Test.YtcgfjjpnjoinkaaWLast
import Derived.Test.YtcgfjjpnjoinkaaWTab
import Derived.Test.YtcgfjjpnjoinkaaWFour
import Derived.Test.YtcgfjjpnjoinkaaWQPut
import Derived.Test.YtcgfjjpnjoinkaaWApart
import Derived.Test.YtcgfjjpnjoinkaaWArr
import Derived.Test.YtcgfjjpnjoinkaaWZeros
import Derived.Test.YtcgfjjpnjoinkaaWFoot
import Derived.Test.YtcgfjjpnjoinkaaWKept
import Derived.Test.YtcgfjjpnjoinkaaWShare
import Derived.Test.YtcgfjjpnjoinkaaWN
import Derived.Test.YtcgfjjpnjoinkaaWFootNe
import Derived.Test.YtcgfjjpnjoinkaaWAt
import Derived.Test.YtcgfjjpnjoinkaaWEqStruct
import Derived.Test.YtcgfjjpnjoinkaaWRepsOne
import Derived.Test.YtcgfjjpnjoinkaaWInv
import Derived.Test.YtcgfjjpnjoinkaaWInvWords
import Derived.Test.YtcgfjjpnjoinkaaWGuard
import Derived.Test.YtcgfjjpnjoinkaaWNEv
import Derived.Test.YtcgfjjpnjoinkaaWMore
import Derived.Test.YtcgfjjpnjoinkaaG
namespace Go.Proofs.Ytcgfjjpnjoinkaa.PCa
open Go.RowKit Go.Proofs.YtcgfjjpnjoinkaaW.PrintWords Go.Proofs.YtcgfjjpnjoinkaaW.PrintLast Go.Proofs.YtcgfjjpnjoinkaaW.PrintMore Go.Proofs.YtcgfjjpnjoinkaaG
attribute [local go_sem] max2_int min2_int max_two min_two max_three min_three max_four min_four   -- for this text's walks alone
set_option linter.unusedVariables false
set_option linter.unusedSimpArgs false



def errW : Option Int → Value
  | none => .nilIface
  | some c => .iface 0 (.int .i64 c)
theorem errW_none : errW none = .nilIface := rfl
theorem errW_some (c : Int) : errW (some c) = .iface 0 (.int .i64 c) := rfl

-- the values' own types

end Go.Proofs.Ytcgfjjpnjoinkaa.PCa
