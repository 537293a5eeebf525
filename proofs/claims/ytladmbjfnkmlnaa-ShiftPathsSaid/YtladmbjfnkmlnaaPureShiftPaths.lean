/- A move that nothing disturbs goes to its end; broken off ahead of the table's being written it is undone, behind that it is done. No conditions. -/
import Derived.Test.YtladmbjfnkmlnaaPGpx7
import Derived.Test.YtladmbjfnkmlnaaShiftB
namespace Go.Proofs.Ytladmbjfnkmlnaa.Pure
open Go.RowKit Go.Proofs.Ytladmbjfnkmlnaa.PGp Go.Proofs.YtladmbjfnkmlnaaW.PrintWords Go.Proofs.YtladmbjfnkmlnaaW.PrintLast

theorem ShiftPaths : carrefourlaw18_ShiftPaths.Pure := by
  intro a b ha
  refine ⟨40, ?_⟩
  have h1 := rest_range a 1 5 (by omega) (by omega) (by omega) (by omega)
  unfold carrefourlaw18_ShiftPaths.f
  generalize wrap64 (1 + wrap64 (Int.tmod (IntKind.u64.wrap a) 5)) = x at h1
  have hx : x = 1 ∨ x = 2 ∨ x = 3 ∨ x = 4 ∨ x = 5 := by omega
  clear h1
  rcases hx with rfl | rfl | rfl | rfl | rfl <;> cases b <;> (change carrefourlaw18_ShiftPaths.l1 _ _ _ _ _ _ = _; kernel_rfl)

end Go.Proofs.Ytladmbjfnkmlnaa.Pure
