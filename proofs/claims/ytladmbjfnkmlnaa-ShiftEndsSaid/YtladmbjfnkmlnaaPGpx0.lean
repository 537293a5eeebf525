-- Written by gprint.py, this session's own program, out of Lean's print of the translation: functions with the same answers, and proofs that the Go code comes to them. Lean checks it all.
import Derived.Test.YtladmbjfnkmlnaaProg
import Derived.Below
import Derived.Deep.Draws
import Derived.Deep.AppendLies
import Derived.Maps.AppendAt
import Derived.OwnWalk
import Derived.Laws.BytesArg
import Derived.Laws.MakeOwn
import Derived.Laws.OwnMore
import Derived.Deep.OwnRows
import Derived.Tactics
import Derived.Lib.ConvBytes
import Derived.Laws.Slices
import Derived.WalkKit
import Derived.KernelRfl
import Derived.RowKit3
import Derived.Deep.LoopGhost
import Derived.Deep.QuietTactic
import Derived.BigQuiet
import Derived.WideLaws
import Derived.Deep.DeepCutAuto
import Derived.Deep.CutBlock
import Derived.Deep.RegionHeld3
import Derived.Laws.Rows
import Derived.Lib.AppendStr
import Derived.ArgAppend
import Derived.Laws.IdiomCopy
import Derived.OrdersHeld
import Derived.Laws.BitsLemmas
import Derived.RowKit
import Derived.Test.YtladmbjfnkmlnaaWWords
import Derived.Test.YtladmbjfnkmlnaaWLast
import Derived.Test.YtladmbjfnkmlnaaWTab
import Derived.Test.YtladmbjfnkmlnaaWFour
import Derived.Test.YtladmbjfnkmlnaaWQPut
import Derived.Test.YtladmbjfnkmlnaaWApart
import Derived.Test.YtladmbjfnkmlnaaWArr
import Derived.Test.YtladmbjfnkmlnaaWZeros
import Derived.Test.YtladmbjfnkmlnaaWFoot
import Derived.Test.YtladmbjfnkmlnaaWKept
import Derived.Test.YtladmbjfnkmlnaaWShare
import Derived.Test.YtladmbjfnkmlnaaWN
import Derived.Test.YtladmbjfnkmlnaaWFootNe
import Derived.Test.YtladmbjfnkmlnaaWAt
import Derived.Test.YtladmbjfnkmlnaaWEqStruct
import Derived.Test.YtladmbjfnkmlnaaWRepsOne
import Derived.Test.YtladmbjfnkmlnaaWInv
import Derived.Test.YtladmbjfnkmlnaaWInvWords
import Derived.Test.YtladmbjfnkmlnaaWGuard
import Derived.Test.YtladmbjfnkmlnaaWNEv
import Derived.Test.YtladmbjfnkmlnaaWMore
import Derived.Test.YtladmbjfnkmlnaaG
namespace Go.Proofs.Ytladmbjfnkmlnaa.PGp
open Go.RowKit Go.Proofs.YtladmbjfnkmlnaaW.PrintWords Go.Proofs.YtladmbjfnkmlnaaW.PrintLast Go.Proofs.YtladmbjfnkmlnaaW.PrintMore Go.Proofs.YtladmbjfnkmlnaaG
attribute [local go_sem] max2_int min2_int max_two min_two max_three min_three max_four min_four   -- for this text's walks alone
set_option linter.unusedVariables false
set_option linter.unusedSimpArgs false



def errW : Option Int → Value
  | none => .nilIface
  | some c => .iface 0 (.int .i64 c)
theorem errW_none : errW none = .nilIface := rfl
theorem errW_some (c : Int) : errW (some c) = .iface 0 (.int .i64 c) := rfl

theorem info3 : (Try.prog.info? 3).map (fun i => (i.zero, i.size, i.bytes)) = some (some (.int .i64 0), 1, 8) := by kernel_rfl
-- the values' own types

end Go.Proofs.Ytladmbjfnkmlnaa.PGp
