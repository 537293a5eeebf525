/-
  ChannelQueues: the run at 16.
  Conditions: none.
-/
import Derived.Test.YtfcebfbdodeecaaGreatDoorEngZ
namespace Go.Eng
open Go Go.Lib Go.RowKit
theorem z16 (n : Int) : endsB p16 Go.Proofs.Tryz.f5 (x5 n 16) = true := by kernel_rfl
end Go.Eng
