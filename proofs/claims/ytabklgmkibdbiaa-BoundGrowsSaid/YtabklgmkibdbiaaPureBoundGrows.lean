/- Each thing that was asked takes thirty rounds more, each node a hundred: for every two numbers. No conditions. -/
import Derived.Test.YtabklgmkibdbiaaPGpx5
namespace Go.Proofs.Ytabklgmkibdbiaa.Pure
open Go.RowKit Go.Proofs.Ytabklgmkibdbiaa.PGp Go.Proofs.YtabklgmkibdbiaaW.PrintWords Go.Proofs.YtabklgmkibdbiaaW.PrintLast Go.Proofs.YtabklgmkibdbiaaW.PrintMore

theorem rest_range0 (x m : Int) (hm : 0 < m) (hm' : m ≤ 1000000) :
    0 ≤ wrap64 (Int.tmod (IntKind.u64.wrap x) m) ∧ wrap64 (Int.tmod (IntKind.u64.wrap x) m) < m := by
  have h0 : 0 ≤ IntKind.u64.wrap x := by simp only [IntKind.wrap]; exact Int.emod_nonneg _ (by decide)
  have e1 : Int.tmod (IntKind.u64.wrap x) m = IntKind.u64.wrap x % m := Int.tmod_eq_emod_of_nonneg h0
  have h1 : 0 ≤ IntKind.u64.wrap x % m := Int.emod_nonneg _ (by omega)
  have h2 : IntKind.u64.wrap x % m < m := Int.emod_lt_of_pos _ hm
  rw [e1]
  generalize IntKind.u64.wrap x % m = y at h1 h2
  unfold wrap64
  omega

theorem told_true : carrefourlaw22_told.f 20 = some true := by kernel_rfl

theorem rounds_at (k n : Int) (hk : k = 1 ∨ k = 2 ∨ k = 3 ∨ k = 4) (h0 : 0 ≤ n) (h1 : n ≤ 100000) : bound_Rounds.f 20 k 2 [[1, 2]] n = some (600 + 100 * k + 30 * n) := by
  have hm : bound_May.f 20 k 2 [[1, 2]] = some true := by
    rcases hk with rfl | rfl | rfl | rfl <;> kernel_rfl
  unfold bound_Rounds.f
  rw [hm]
  simp only [Option.bind_some, if_true]
  congr 1
  have e : mn (mx n 0) 100000 = n := by
    unfold mn mx
    (repeat' split) <;> omega
  rw [e]
  unfold wrap64
  omega

theorem BoundGrows : carrefourlaw22_BoundGrows.Pure := by
  intro a b ha hb
  refine ⟨20, ?_⟩
  have h1 := rest_range0 a 50000 (by omega) (by omega)
  have h2 := rest_range0 b 3 (by omega) (by omega)
  unfold carrefourlaw22_BoundGrows.f
  rw [told_true]
  simp only [Option.bind_some, if_true]
  generalize wrap64 (Int.tmod (IntKind.u64.wrap a) 50000) = n at h1
  generalize wrap64 (Int.tmod (IntKind.u64.wrap b) 3) = m at h2
  have e1 : wrap64 (n + 1) = n + 1 := by unfold wrap64; omega
  have e2 : wrap64 (1 + m) = 1 + m := by unfold wrap64; omega
  have e3 : wrap64 (1 + m + 1) = 1 + m + 1 := by unfold wrap64; omega
  rw [e1, e2, e3, rounds_at (1 + m) (n + 1) (by omega) (by omega) (by omega), rounds_at (1 + m) n (by omega) (by omega) (by omega), rounds_at (1 + m + 1) n (by omega) (by omega) (by omega)]
  simp only [Option.bind_some]
  have e4 : wrap64 (600 + 100 * (1 + m) + 30 * (n + 1) - (600 + 100 * (1 + m) + 30 * n)) = 30 := by unfold wrap64; omega
  have e5 : wrap64 (600 + 100 * (1 + m + 1) + 30 * n - (600 + 100 * (1 + m) + 30 * n)) = 100 := by unfold wrap64; omega
  rw [e4, e5]
  simp

end Go.Proofs.Ytabklgmkibdbiaa.Pure
