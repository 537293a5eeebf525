/-
  ChannelQueues: for every number the law's call returns true.
  Conditions: none.
-/
import Derived.Test.YtfcebfbdodeecaaGreatDoorEngZk14
import Derived.Test.YtfcebfbdodeecaaGreatDoorEngZk15
import Derived.Test.YtfcebfbdodeecaaGreatDoorEngZk16
import Derived.Test.YtfcebfbdodeecaaGreatDoorEngZk17
namespace Go.Eng
open Go Go.Lib Go.RowKit
set_option linter.unusedVariables false
theorem rest5 {N : Nat → Prop} {r : Rn} {n : Int} {c : Act} {w : World} (hI : Inv p16 N r (nh (x4 n)) w) (hF : AF r (nf (x4 n)) c) {R : Ending → World → Prop} (hR : ∀ w', Bel N w w' → R (.returned (.bool true)) w') : q5e.wp p16 (bodyPost p16 Go.Proofs.Tryz.f5 R) c w := by
  rcases e5_some n with h | h | h | h
  · exact wp_fin (eS 1000000) (z14 n) hI (hF.lit (s4 n) h) hR
  · exact wp_fin (eS 1000000) (z15 n) hI (hF.lit (s4 n) h) hR
  · exact wp_fin (eS 1000000) (z16 n) hI (hF.lit (s4 n) h) hR
  · exact wp_fin (eS 1000000) (z17 n) hI (hF.lit (s4 n) h) hR
theorem queues (n : Int) (w : World) : Calls p16 5 #[.int .i64 n] w fun e w' => e = .returned (.bool true) ∧ Below w.heap.size w w' := by
  refine calls_of_wp Go.Proofs.Tryz.func5 q5_eq ?_
  have hF : AF (fun _ => none) (a0 n) _ := initF_sound (args := [.int .i64 n]) (args' := [.int .i64 n]) (n := 77) (.cons _ _ _ _ (.int _ _) .nil) (show (77 : Nat) ≤ 512 by decide)
  rw [q5_cut]
  refine wp_cut (eS 1000000) (n1 n) (empty_inv w) hF fun s1 c1 w1 l1 f1 i1 b1 => ?_
  refine wp_cut (eS 1000000) (n2 n) i1 f1 fun s2 c2 w2 l2 f2 i2 b2 => ?_
  refine wp_cut (eS 1000000) (n3 n) i2 f2 fun s3 c3 w3 l3 f3 i3 b3 => ?_
  refine wp_cut (eS 1000000) (n4 n) i3 f3 fun s4 c4 w4 l4 f4 i4 b4 => ?_
  exact rest5 i4 f4 fun w' b => ⟨rfl, bel_below (b1.trans (b2.trans (b3.trans (b4.trans b))))⟩
end Go.Eng
