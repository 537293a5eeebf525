/-
  ChannelModes: the code in pieces.
  Conditions: none.
-/
import Derived.Test.YtfcebfbdodeecaaGreatDoorEngGa
import Derived.Test.YtfcebfbdodeecaaGreatDoorEngW
namespace Go.Eng
open Go Go.Lib Go.RowKit
set_option linter.unusedVariables false
section
noncomputable def q3 : Code := match Go.Proofs.Tryz.f3.body with | some c => c | none => .skip
theorem q3_eq : Go.Proofs.Tryz.f3.body = some q3 := rfl
noncomputable def q3a : Code := cf q3
noncomputable def q3b : Code := cf (cs q3)
noncomputable def q3c : Code := cf (cs (cs q3))
noncomputable def q3d : Code := cf (cs (cs (cs q3)))
noncomputable def q3e : Code := cf (cs (cs (cs (cs q3))))
noncomputable def q3f : Code := cf (cs (cs (cs (cs (cs q3)))))
noncomputable def q3g : Code := cs (cs (cs (cs (cs (cs q3)))))
noncomputable def q3i : Code := cf q3f
noncomputable def q3j : Code := match cs q3f with | .block _ (.loop b) => b | _ => .skip
theorem q3_cut : q3 = q3a.seq (q3b.seq (q3c.seq (q3d.seq (q3e.seq ((q3i.seq (.block 0 (.loop q3j))).seq q3g))))) := by kernel_rfl
/-- the head of the loop, and its parts -/
noncomputable def q3h : Code := cf (cf q3j)
noncomputable def q3k : Code := cs (cf q3j)
noncomputable def q3l : Code := match cf (cs q3j) with | .block _ b => b | _ => .skip
noncomputable def q3m : Code := cs (cs q3j)
theorem q3j_cut : q3j = (q3h.seq q3k).seq ((Code.block 1 q3l).seq q3m) := by kernel_rfl
noncomputable def q3n : Code := cf q3l
noncomputable def q3o : Code := cs q3l
theorem q3l_cut : q3l = q3n.seq q3o := by kernel_rfl
noncomputable def m0 (len cap : Nat) : Fr := initF [.slice (some ⟨1048576, 0, none⟩) len cap] 111
noncomputable def mx1 (l c : Nat) : ExR := execB p16 K17 1000000 none q3a (m0 l c) ⟨.nil, 0⟩
noncomputable def mx2 (l c : Nat) : ExR := execB p16 K17 1000000 none q3b (nf (mx1 l c)) (nh (mx1 l c))
noncomputable def mx3 (l c : Nat) : ExR := execB p16 K17 1000000 none q3c (nf (mx2 l c)) (nh (mx2 l c))
noncomputable def mx4 (l c : Nat) : ExR := execB p16 K17 1000000 none q3d (nf (mx3 l c)) (nh (mx3 l c))
noncomputable def mx5 (l c : Nat) : ExR := execB p16 K17 1000000 none q3e (nf (mx4 l c)) (nh (mx4 l c))
noncomputable def mx6 (l c : Nat) : ExR := execB p16 K17 1000000 none q3i (nf (mx5 l c)) (nh (mx5 l c))
theorem mn1 (l c : Nat) : isN (mx1 l c) = true := by kernel_rfl
theorem mn2 (l c : Nat) : isN (mx2 l c) = true := by kernel_rfl
theorem mn3 (l c : Nat) : isN (mx3 l c) = true := by kernel_rfl
theorem mn4 (l c : Nat) : isN (mx4 l c) = true := by kernel_rfl
theorem mn5 (l c : Nat) : isN (mx5 l c) = true := by kernel_rfl
theorem mn6 (l c : Nat) : isN (mx6 l c) = true := by kernel_rfl
end
end Go.Eng
