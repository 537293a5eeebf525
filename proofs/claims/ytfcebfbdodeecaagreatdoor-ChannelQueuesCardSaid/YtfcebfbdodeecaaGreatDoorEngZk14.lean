/-
  ChannelQueues: the run at 14.
  Conditions: none.
-/
import Derived.Test.YtfcebfbdodeecaaGreatDoorEngZ
namespace Go.Eng
open Go Go.Lib Go.RowKit
theorem z14 (n : Int) : endsB p16 Go.Proofs.Tryz.f5 (x5 n 14) = true := by kernel_rfl
end Go.Eng
