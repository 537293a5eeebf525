/-
  ChannelPrefetch: runs (ends).
  Conditions: none.
-/
import Derived.Test.YtfcebfbdodeecaaGreatDoorEngPc
namespace Go.Eng
open Go Go.Lib Go.RowKit
set_option linter.unusedVariables false
set_option maxRecDepth 20000
theorem pz_13 (d : Nat) (K : Int) (x : Nat → Value) : endsB p16 Go.Proofs.Tryz.f7 (zR (Int.ofNat (d + 13)) K 13 x) = true := by kernel_rfl
theorem pz_14 (d : Nat) (K : Int) (x : Nat → Value) : endsB p16 Go.Proofs.Tryz.f7 (zR (Int.ofNat (d + 14)) K 14 x) = true := by kernel_rfl
theorem pz_15 (d : Nat) (K : Int) (x : Nat → Value) : endsB p16 Go.Proofs.Tryz.f7 (zR (Int.ofNat (d + 15)) K 15 x) = true := by kernel_rfl
theorem pz_16 (d : Nat) (K : Int) (x : Nat → Value) : endsB p16 Go.Proofs.Tryz.f7 (zR (Int.ofNat (d + 16)) K 16 x) = true := by kernel_rfl
theorem pz_17 (d : Nat) (K : Int) (x : Nat → Value) : endsB p16 Go.Proofs.Tryz.f7 (zR (Int.ofNat (d + 17)) K 17 x) = true := by kernel_rfl
theorem pz_18 (d : Nat) (K : Int) (x : Nat → Value) : endsB p16 Go.Proofs.Tryz.f7 (zR (Int.ofNat (d + 18)) K 18 x) = true := by kernel_rfl
theorem pz_19 (d : Nat) (K : Int) (x : Nat → Value) : endsB p16 Go.Proofs.Tryz.f7 (zR (Int.ofNat (d + 19)) K 19 x) = true := by kernel_rfl
theorem pz_20 (d : Nat) (K : Int) (x : Nat → Value) : endsB p16 Go.Proofs.Tryz.f7 (zR (Int.ofNat (d + 20)) K 20 x) = true := by kernel_rfl
end Go.Eng
