/-
  ChannelPrefetch: runs (beginnings).
  Conditions: none.
-/
import Derived.Test.YtfcebfbdodeecaaGreatDoorEngPc
namespace Go.Eng
open Go Go.Lib Go.RowKit
set_option linter.unusedVariables false
set_option maxRecDepth 20000
theorem pb_11 (K : Int) (x : Nat → Value) : viewN [5, 6, 7] [0, 9, 28, 1] (px2 (Int.ofNat 11) K x) = some ((pS (Int.ofNat 11) K).view 157 [0, 9, 28, 1]) := by kernel_rfl
theorem pb_12 (K : Int) (x : Nat → Value) : viewN [5, 6, 7] [0, 9, 28, 1] (px2 (Int.ofNat 12) K x) = some ((pS (Int.ofNat 12) K).view 157 [0, 9, 28, 1]) := by kernel_rfl
theorem pb_13 (K : Int) (x : Nat → Value) : viewN [5, 6, 7] [0, 9, 28, 1] (px2 (Int.ofNat 13) K x) = some ((pS (Int.ofNat 13) K).view 157 [0, 9, 28, 1]) := by kernel_rfl
theorem pb_14 (K : Int) (x : Nat → Value) : viewN [5, 6, 7] [0, 9, 28, 1] (px2 (Int.ofNat 14) K x) = some ((pS (Int.ofNat 14) K).view 157 [0, 9, 28, 1]) := by kernel_rfl
theorem pb_15 (K : Int) (x : Nat → Value) : viewN [5, 6, 7] [0, 9, 28, 1] (px2 (Int.ofNat 15) K x) = some ((pS (Int.ofNat 15) K).view 157 [0, 9, 28, 1]) := by kernel_rfl
theorem pb_16 (K : Int) (x : Nat → Value) : viewN [5, 6, 7] [0, 9, 28, 1] (px2 (Int.ofNat 16) K x) = some ((pS (Int.ofNat 16) K).view 157 [0, 9, 28, 1]) := by kernel_rfl
theorem pb_17 (K : Int) (x : Nat → Value) : viewN [5, 6, 7] [0, 9, 28, 1] (px2 (Int.ofNat 17) K x) = some ((pS (Int.ofNat 17) K).view 157 [0, 9, 28, 1]) := by kernel_rfl
theorem pb_18 (K : Int) (x : Nat → Value) : viewN [5, 6, 7] [0, 9, 28, 1] (px2 (Int.ofNat 18) K x) = some ((pS (Int.ofNat 18) K).view 157 [0, 9, 28, 1]) := by kernel_rfl
theorem pb_19 (K : Int) (x : Nat → Value) : viewN [5, 6, 7] [0, 9, 28, 1] (px2 (Int.ofNat 19) K x) = some ((pS (Int.ofNat 19) K).view 157 [0, 9, 28, 1]) := by kernel_rfl
theorem pb_20 (K : Int) (x : Nat → Value) : viewN [5, 6, 7] [0, 9, 28, 1] (px2 (Int.ofNat 20) K x) = some ((pS (Int.ofNat 20) K).view 157 [0, 9, 28, 1]) := by kernel_rfl
end Go.Eng
