/-
  ChannelQueues: for every number.
  Conditions: none.
-/
import Derived.Test.YtfcebfbdodeecaaGreatDoorEngW
namespace Go.Eng
open Go Go.Lib Go.RowKit
set_option linter.unusedVariables false
noncomputable def q5 : Code := match Go.Proofs.Tryz.f5.body with | some c => c | none => .skip
theorem q5_eq : Go.Proofs.Tryz.f5.body = some q5 := rfl
noncomputable def q5a : Code := cf q5
noncomputable def q5b : Code := cf (cs q5)
noncomputable def q5c : Code := cf (cs (cs q5))
noncomputable def q5d : Code := cf (cs (cs (cs q5)))
noncomputable def q5e : Code := cs (cs (cs (cs q5)))
theorem q5_cut : q5 = q5a.seq (q5b.seq (q5c.seq (q5d.seq q5e))) := by kernel_rfl
noncomputable def a0 (n : Int) : Fr := initF [.int .i64 n] 77
noncomputable def x1 (n : Int) : ExR := execB p16 K17 1000000 none q5a (a0 n) ⟨.nil, 0⟩
noncomputable def x2 (n : Int) : ExR := execB p16 K17 1000000 none q5b (nf (x1 n)) (nh (x1 n))
noncomputable def x3 (n : Int) : ExR := execB p16 K17 1000000 none q5c (nf (x2 n)) (nh (x2 n))
noncomputable def x4 (n : Int) : ExR := execB p16 K17 1000000 none q5d (nf (x3 n)) (nh (x3 n))
theorem n1 (n : Int) : isN (x1 n) = true := by kernel_rfl
theorem n2 (n : Int) : isN (x2 n) = true := by kernel_rfl
theorem n3 (n : Int) : isN (x3 n) = true := by kernel_rfl
theorem n4 (n : Int) : isN (x4 n) = true := by kernel_rfl
noncomputable def e5 (n : Int) : Int := IntKind.i64.wrap (14 + IntKind.i64.wrap ((IntKind.u64.wrap n).tmod 4))
theorem s4 (n : Int) : slot (nf (x4 n)) 4 = .int .i64 (e5 n) := by kernel_rfl
theorem e5_some (n : Int) : e5 n = 14 ∨ e5 n = 15 ∨ e5 n = 16 ∨ e5 n = 17 := by
  have h1 : IntKind.u64.wrap n = n % 18446744073709551616 := by simp [IntKind.wrap, IntKind.signed, IntKind.bits]
  have h2 : (IntKind.u64.wrap n).tmod 4 = (n % 18446744073709551616) % 4 := by
    rw [h1, Int.tmod_eq_emod_of_nonneg (Int.emod_nonneg _ (by decide))]
  unfold e5
  rw [h2, IntKind.wrap_i64, IntKind.wrap_i64]
  omega
noncomputable def x5 (n : Int) (k : Int) : ExR := execB p16 K17 1000000 none q5e (putD (nf (x4 n)) (some 4) (.int .i64 k)) (nh (x4 n))
end Go.Eng
