/-
  ChannelRoutes: the code in pieces.
  Conditions: none.
-/
import Derived.Test.YtfcebfbdodeecaaGreatDoorEngGb
import Derived.Test.YtfcebfbdodeecaaGreatDoorEngW
namespace Go.Eng
open Go Go.Lib Go.RowKit
set_option linter.unusedVariables false
section
noncomputable def q6 : Code := match Go.Proofs.Tryz.f6.body with | some c => c | none => .skip
theorem q6_eq : Go.Proofs.Tryz.f6.body = some q6 := rfl
noncomputable def q6t (n : Nat) : Code := Nat.rec (motive := fun _ => Code) q6 (fun _ ih => cs ih) n
noncomputable def q6p (n : Nat) : Code := cf (q6t n)
theorem q6_cut : q6 = seqL [q6p 0, q6p 1, q6p 2, q6p 3, q6p 4] (q6t 5) := by kernel_rfl
noncomputable def r0 (u v : Int) : Fr := initF [.int .i64 u, .int .i64 v] 142
noncomputable def rx1 (u v : Int) : ExR := runL p16 K17 1000000 [q6p 0, q6p 1, q6p 2, q6p 3, q6p 4] (r0 u v) ⟨.nil, 0⟩
end
end Go.Eng
