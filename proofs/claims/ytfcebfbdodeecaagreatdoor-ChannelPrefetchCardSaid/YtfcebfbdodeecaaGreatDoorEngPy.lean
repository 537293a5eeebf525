/-
  ChannelPrefetch: runs (ends).
  Conditions: none.
-/
import Derived.Test.YtfcebfbdodeecaaGreatDoorEngPc
namespace Go.Eng
open Go Go.Lib Go.RowKit
set_option linter.unusedVariables false
set_option maxRecDepth 20000
theorem pz_1 (d : Nat) (K : Int) (x : Nat → Value) : endsB p16 Go.Proofs.Tryz.f7 (zR (Int.ofNat (d + 1)) K 1 x) = true := by kernel_rfl
theorem pz_2 (d : Nat) (K : Int) (x : Nat → Value) : endsB p16 Go.Proofs.Tryz.f7 (zR (Int.ofNat (d + 2)) K 2 x) = true := by kernel_rfl
theorem pz_3 (d : Nat) (K : Int) (x : Nat → Value) : endsB p16 Go.Proofs.Tryz.f7 (zR (Int.ofNat (d + 3)) K 3 x) = true := by kernel_rfl
theorem pz_4 (d : Nat) (K : Int) (x : Nat → Value) : endsB p16 Go.Proofs.Tryz.f7 (zR (Int.ofNat (d + 4)) K 4 x) = true := by kernel_rfl
theorem pz_5 (d : Nat) (K : Int) (x : Nat → Value) : endsB p16 Go.Proofs.Tryz.f7 (zR (Int.ofNat (d + 5)) K 5 x) = true := by kernel_rfl
theorem pz_6 (d : Nat) (K : Int) (x : Nat → Value) : endsB p16 Go.Proofs.Tryz.f7 (zR (Int.ofNat (d + 6)) K 6 x) = true := by kernel_rfl
theorem pz_7 (d : Nat) (K : Int) (x : Nat → Value) : endsB p16 Go.Proofs.Tryz.f7 (zR (Int.ofNat (d + 7)) K 7 x) = true := by kernel_rfl
theorem pz_8 (d : Nat) (K : Int) (x : Nat → Value) : endsB p16 Go.Proofs.Tryz.f7 (zR (Int.ofNat (d + 8)) K 8 x) = true := by kernel_rfl
theorem pz_9 (d : Nat) (K : Int) (x : Nat → Value) : endsB p16 Go.Proofs.Tryz.f7 (zR (Int.ofNat (d + 9)) K 9 x) = true := by kernel_rfl
theorem pz_10 (d : Nat) (K : Int) (x : Nat → Value) : endsB p16 Go.Proofs.Tryz.f7 (zR (Int.ofNat (d + 10)) K 10 x) = true := by kernel_rfl
theorem pz_11 (d : Nat) (K : Int) (x : Nat → Value) : endsB p16 Go.Proofs.Tryz.f7 (zR (Int.ofNat (d + 11)) K 11 x) = true := by kernel_rfl
theorem pz_12 (d : Nat) (K : Int) (x : Nat → Value) : endsB p16 Go.Proofs.Tryz.f7 (zR (Int.ofNat (d + 12)) K 12 x) = true := by kernel_rfl
end Go.Eng
