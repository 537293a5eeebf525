/-
  ChannelRoutes: the runs of kind 2.
  Conditions: none.
-/
import Derived.Test.YtfcebfbdodeecaaGreatDoorEngRb
namespace Go.Eng
open Go Go.Lib Go.RowKit
set_option maxRecDepth 20000
theorem rr21 (x : Nat → Value) : endsB p16 Go.Proofs.Tryz.f6 (rF 2 1 x) = true := by kernel_rfl
theorem rr22 (x : Nat → Value) : endsB p16 Go.Proofs.Tryz.f6 (rF 2 2 x) = true := by kernel_rfl
theorem rr23 (x : Nat → Value) : endsB p16 Go.Proofs.Tryz.f6 (rF 2 3 x) = true := by kernel_rfl
theorem rr24 (x : Nat → Value) : endsB p16 Go.Proofs.Tryz.f6 (rF 2 4 x) = true := by kernel_rfl
end Go.Eng
