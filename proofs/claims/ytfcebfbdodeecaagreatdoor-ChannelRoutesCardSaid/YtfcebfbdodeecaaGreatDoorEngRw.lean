/-
  ChannelRoutes: for every two numbers the law's call returns true.
  Conditions: none.
-/
import Derived.Test.YtfcebfbdodeecaaGreatDoorEngRk0
import Derived.Test.YtfcebfbdodeecaaGreatDoorEngRk1
import Derived.Test.YtfcebfbdodeecaaGreatDoorEngRk2
import Derived.Test.YtfcebfbdodeecaaGreatDoorEngRk3
namespace Go.Eng
open Go Go.Lib Go.RowKit
set_option linter.unusedVariables false
set_option maxRecDepth 20000
theorem rr {k n : Int} (hk : k = 0 ∨ k = 1 ∨ k = 2 ∨ k = 3) (hn : n = 1 ∨ n = 2 ∨ n = 3 ∨ n = 4) (x : Nat → Value) : endsB p16 Go.Proofs.Tryz.f6 (rF k n x) = true := by
  rcases hk with rfl | rfl | rfl | rfl
  · rcases hn with rfl | rfl | rfl | rfl
    · exact rr01 x
    · exact rr02 x
    · exact rr03 x
    · exact rr04 x
  · rcases hn with rfl | rfl | rfl | rfl
    · exact rr11 x
    · exact rr12 x
    · exact rr13 x
    · exact rr14 x
  · rcases hn with rfl | rfl | rfl | rfl
    · exact rr21 x
    · exact rr22 x
    · exact rr23 x
    · exact rr24 x
  · rcases hn with rfl | rfl | rfl | rfl
    · exact rr31 x
    · exact rr32 x
    · exact rr33 x
    · exact rr34 x
theorem routes (u v : Int) (W : World) : Calls p16 6 #[.int .i64 u, .int .i64 v] W fun e w' => e = .returned (.bool true) ∧ Below W.heap.size W w' := by
  refine calls_of_wp Go.Proofs.Tryz.func6 q6_eq ?_
  have hF : AF (fun _ => none) (r0 u v) _ := initF_sound (args := [.int .i64 u, .int .i64 v]) (args' := [.int .i64 u, .int .i64 v]) (n := 142) (.cons _ _ _ _ (.int _ _) (.cons _ _ _ _ (.int _ _) .nil)) (show (142 : Nat) ≤ 512 by decide)
  rw [q6_cut]
  refine wp_shorts (C' := rC (eC u) (eW v)) (eS 1000000) (r1_run u v) (rC_ok _ _) (empty_inv W) hF fun s1 x1 c1 w1 i1 f1 h1 e1 => ?_
  exact wp_fin (eS 1000000) (rr (eC_some u) (eW_some v) x1) i1 f1 fun w' h => ⟨rfl, bel_below (e1.trans h)⟩
end Go.Eng
