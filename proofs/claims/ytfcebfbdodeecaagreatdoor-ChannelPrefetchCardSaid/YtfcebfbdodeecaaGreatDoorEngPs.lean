/-
  ChannelPrefetch: runs (beginnings).
  Conditions: none.
-/
import Derived.Test.YtfcebfbdodeecaaGreatDoorEngPc
namespace Go.Eng
open Go Go.Lib Go.RowKit
set_option linter.unusedVariables false
set_option maxRecDepth 20000
theorem pb_1 (K : Int) (x : Nat → Value) : viewN [5, 6, 7] [0, 9, 28, 1] (px2 (Int.ofNat 1) K x) = some ((pS (Int.ofNat 1) K).view 157 [0, 9, 28, 1]) := by kernel_rfl
theorem pb_2 (K : Int) (x : Nat → Value) : viewN [5, 6, 7] [0, 9, 28, 1] (px2 (Int.ofNat 2) K x) = some ((pS (Int.ofNat 2) K).view 157 [0, 9, 28, 1]) := by kernel_rfl
theorem pb_3 (K : Int) (x : Nat → Value) : viewN [5, 6, 7] [0, 9, 28, 1] (px2 (Int.ofNat 3) K x) = some ((pS (Int.ofNat 3) K).view 157 [0, 9, 28, 1]) := by kernel_rfl
theorem pb_4 (K : Int) (x : Nat → Value) : viewN [5, 6, 7] [0, 9, 28, 1] (px2 (Int.ofNat 4) K x) = some ((pS (Int.ofNat 4) K).view 157 [0, 9, 28, 1]) := by kernel_rfl
theorem pb_5 (K : Int) (x : Nat → Value) : viewN [5, 6, 7] [0, 9, 28, 1] (px2 (Int.ofNat 5) K x) = some ((pS (Int.ofNat 5) K).view 157 [0, 9, 28, 1]) := by kernel_rfl
theorem pb_6 (K : Int) (x : Nat → Value) : viewN [5, 6, 7] [0, 9, 28, 1] (px2 (Int.ofNat 6) K x) = some ((pS (Int.ofNat 6) K).view 157 [0, 9, 28, 1]) := by kernel_rfl
theorem pb_7 (K : Int) (x : Nat → Value) : viewN [5, 6, 7] [0, 9, 28, 1] (px2 (Int.ofNat 7) K x) = some ((pS (Int.ofNat 7) K).view 157 [0, 9, 28, 1]) := by kernel_rfl
theorem pb_8 (K : Int) (x : Nat → Value) : viewN [5, 6, 7] [0, 9, 28, 1] (px2 (Int.ofNat 8) K x) = some ((pS (Int.ofNat 8) K).view 157 [0, 9, 28, 1]) := by kernel_rfl
theorem pb_9 (K : Int) (x : Nat → Value) : viewN [5, 6, 7] [0, 9, 28, 1] (px2 (Int.ofNat 9) K x) = some ((pS (Int.ofNat 9) K).view 157 [0, 9, 28, 1]) := by kernel_rfl
theorem pb_10 (K : Int) (x : Nat → Value) : viewN [5, 6, 7] [0, 9, 28, 1] (px2 (Int.ofNat 10) K x) = some ((pS (Int.ofNat 10) K).view 157 [0, 9, 28, 1]) := by kernel_rfl
end Go.Eng
