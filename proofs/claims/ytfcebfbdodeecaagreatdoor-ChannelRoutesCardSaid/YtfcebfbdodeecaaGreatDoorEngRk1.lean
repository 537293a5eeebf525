/-
  ChannelRoutes: the runs of kind 1.
  Conditions: none.
-/
import Derived.Test.YtfcebfbdodeecaaGreatDoorEngRb
namespace Go.Eng
open Go Go.Lib Go.RowKit
set_option maxRecDepth 20000
theorem rr11 (x : Nat → Value) : endsB p16 Go.Proofs.Tryz.f6 (rF 1 1 x) = true := by kernel_rfl
theorem rr12 (x : Nat → Value) : endsB p16 Go.Proofs.Tryz.f6 (rF 1 2 x) = true := by kernel_rfl
theorem rr13 (x : Nat → Value) : endsB p16 Go.Proofs.Tryz.f6 (rF 1 3 x) = true := by kernel_rfl
theorem rr14 (x : Nat → Value) : endsB p16 Go.Proofs.Tryz.f6 (rF 1 4 x) = true := by kernel_rfl
end Go.Eng
