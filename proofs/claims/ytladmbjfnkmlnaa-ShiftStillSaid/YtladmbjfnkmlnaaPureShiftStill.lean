/- An event that is not a step's own changes nothing: for every step and every event. No conditions. -/
import Derived.Test.YtladmbjfnkmlnaaPGpx7
import Derived.Test.YtladmbjfnkmlnaaShiftB
namespace Go.Proofs.Ytladmbjfnkmlnaa.Pure
open Go.RowKit Go.Proofs.Ytladmbjfnkmlnaa.PGp Go.Proofs.YtladmbjfnkmlnaaW.PrintWords Go.Proofs.YtladmbjfnkmlnaaW.PrintLast

theorem ShiftStill : carrefourlaw18_ShiftStill.Pure := by
  intro a b ha hb
  refine ⟨22, ?_⟩
  have h1 := rest_range0 a 10 (by omega) (by omega)
  have h2 := rest_range0 b 12 (by omega) (by omega)
  unfold carrefourlaw18_ShiftStill.f
  generalize wrap64 (Int.tmod (IntKind.u64.wrap a) 10) = x at h1
  generalize wrap64 (Int.tmod (IntKind.u64.wrap b) 12) = y at h2
  have hx : x = 0 ∨ x = 1 ∨ x = 2 ∨ x = 3 ∨ x = 4 ∨ x = 5 ∨ x = 6 ∨ x = 7 ∨ x = 8 ∨ x = 9 := by omega
  have hy : y = 0 ∨ y = 1 ∨ y = 2 ∨ y = 3 ∨ y = 4 ∨ y = 5 ∨ y = 6 ∨ y = 7 ∨ y = 8 ∨ y = 9 ∨ y = 10 ∨ y = 11 := by omega
  clear h1 h2
  rcases hx with rfl | rfl | rfl | rfl | rfl | rfl | rfl | rfl | rfl | rfl <;>
  rcases hy with rfl | rfl | rfl | rfl | rfl | rfl | rfl | rfl | rfl | rfl | rfl | rfl <;> rfl

end Go.Proofs.Ytladmbjfnkmlnaa.Pure
