/-
  ChannelRoutes: the runs of kind 3.
  Conditions: none.
-/
import Derived.Test.YtfcebfbdodeecaaGreatDoorEngRb
namespace Go.Eng
open Go Go.Lib Go.RowKit
set_option maxRecDepth 20000
theorem rr31 (x : Nat → Value) : endsB p16 Go.Proofs.Tryz.f6 (rF 3 1 x) = true := by kernel_rfl
theorem rr32 (x : Nat → Value) : endsB p16 Go.Proofs.Tryz.f6 (rF 3 2 x) = true := by kernel_rfl
theorem rr33 (x : Nat → Value) : endsB p16 Go.Proofs.Tryz.f6 (rF 3 3 x) = true := by kernel_rfl
theorem rr34 (x : Nat → Value) : endsB p16 Go.Proofs.Tryz.f6 (rF 3 4 x) = true := by kernel_rfl
end Go.Eng
