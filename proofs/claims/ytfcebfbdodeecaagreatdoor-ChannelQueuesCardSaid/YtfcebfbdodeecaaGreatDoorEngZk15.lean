/-
  ChannelQueues: the run at 15.
  Conditions: none.
-/
import Derived.Test.YtfcebfbdodeecaaGreatDoorEngZ
namespace Go.Eng
open Go Go.Lib Go.RowKit
theorem z15 (n : Int) : endsB p16 Go.Proofs.Tryz.f5 (x5 n 15) = true := by kernel_rfl
end Go.Eng
