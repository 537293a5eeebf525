/-
  ChannelRoutes: the runs of kind 0.
  Conditions: none.
-/
import Derived.Test.YtfcebfbdodeecaaGreatDoorEngRb
namespace Go.Eng
open Go Go.Lib Go.RowKit
set_option maxRecDepth 20000
theorem rr01 (x : Nat → Value) : endsB p16 Go.Proofs.Tryz.f6 (rF 0 1 x) = true := by kernel_rfl
theorem rr02 (x : Nat → Value) : endsB p16 Go.Proofs.Tryz.f6 (rF 0 2 x) = true := by kernel_rfl
theorem rr03 (x : Nat → Value) : endsB p16 Go.Proofs.Tryz.f6 (rF 0 3 x) = true := by kernel_rfl
theorem rr04 (x : Nat → Value) : endsB p16 Go.Proofs.Tryz.f6 (rF 0 4 x) = true := by kernel_rfl
end Go.Eng
