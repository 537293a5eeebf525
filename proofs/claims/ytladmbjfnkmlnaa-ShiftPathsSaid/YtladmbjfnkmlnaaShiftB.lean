/- The step behind an event, as a plain table; and the numbers that the laws draw out of whole numbers. No conditions. -/
import Derived.Test.YtladmbjfnkmlnaaPGpx4
namespace Go.Proofs.Ytladmbjfnkmlnaa.Pure
open Go.RowKit Go.Proofs.Ytladmbjfnkmlnaa.PGp Go.Proofs.YtladmbjfnkmlnaaW.PrintWords Go.Proofs.YtladmbjfnkmlnaaW.PrintLast

/-- What Next answers, with twenty rounds. -/
def nx (p e : Int) : Int × Int := (shift_Next.f 20 p e).getD (0, 0)

theorem told_at (k : Nat) (hk : 20 ≤ k) : carrefourlaw18_told.f k = some true :=
  at_rounds (g := fun k => carrefourlaw18_told.f k) carrefourlaw18_told.mono hk rfl

theorem next_at {p e : Int} {r : Int × Int} (h : shift_Next.f 20 p e = some r) (k : Nat) (hk : 20 ≤ k) : shift_Next.f k p e = some r :=
  at_rounds (g := fun k => shift_Next.f k p e) (fun k => shift_Next.mono p e k) hk h

theorem again_at {p r : Int} (h : shift_Again.f 20 p = some r) (k : Nat) (hk : 20 ≤ k) : shift_Again.f k p = some r :=
  at_rounds (g := fun k => shift_Again.f k p) (fun k => shift_Again.mono p k) hk h

/-- A rest of an int seen as a uint, behind a shift by a number. -/
theorem rest_range (x c m : Int) (hm : 0 < m) (hm' : m ≤ 1000) (hc : 0 ≤ c) (hc' : c ≤ 1000) :
    c ≤ wrap64 (c + wrap64 (Int.tmod (IntKind.u64.wrap x) m)) ∧ wrap64 (c + wrap64 (Int.tmod (IntKind.u64.wrap x) m)) < c + m := by
  have h0 : 0 ≤ IntKind.u64.wrap x := by simp only [IntKind.wrap]; exact Int.emod_nonneg _ (by decide)
  have e1 : Int.tmod (IntKind.u64.wrap x) m = IntKind.u64.wrap x % m := Int.tmod_eq_emod_of_nonneg h0
  have h1 : 0 ≤ IntKind.u64.wrap x % m := Int.emod_nonneg _ (by omega)
  have h2 : IntKind.u64.wrap x % m < m := Int.emod_lt_of_pos _ hm
  rw [e1]
  generalize IntKind.u64.wrap x % m = y at h1 h2
  unfold wrap64
  omega

theorem rest_range0 (x m : Int) (hm : 0 < m) (hm' : m ≤ 1000) :
    0 ≤ wrap64 (Int.tmod (IntKind.u64.wrap x) m) ∧ wrap64 (Int.tmod (IntKind.u64.wrap x) m) < m := by
  have h0 : 0 ≤ IntKind.u64.wrap x := by simp only [IntKind.wrap]; exact Int.emod_nonneg _ (by decide)
  have e1 : Int.tmod (IntKind.u64.wrap x) m = IntKind.u64.wrap x % m := Int.tmod_eq_emod_of_nonneg h0
  have h1 : 0 ≤ IntKind.u64.wrap x % m := Int.emod_nonneg _ (by omega)
  have h2 : IntKind.u64.wrap x % m < m := Int.emod_lt_of_pos _ hm
  rw [e1]
  generalize IntKind.u64.wrap x % m = y at h1 h2
  unfold wrap64
  omega

theorem nine (e : Int) (h : 1 ≤ e) (h' : e < 10) : e = 1 ∨ e = 2 ∨ e = 3 ∨ e = 4 ∨ e = 5 ∨ e = 6 ∨ e = 7 ∨ e = 8 ∨ e = 9 := by omega
theorem wrap_up {i : Int} {n : Nat} (h0 : 0 ≤ i) (h : i < (n : Int)) (hn : n ≤ 9223372036854775807) : wrap64 (i + 1) = i + 1 := by
  unfold wrap64
  omega

end Go.Proofs.Ytladmbjfnkmlnaa.Pure
