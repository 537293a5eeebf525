/-
  ChannelRoutes: the short state.
  Conditions: none.
-/
import Derived.Test.YtfcebfbdodeecaaGreatDoorEngRa
namespace Go.Eng
open Go Go.Lib Go.RowKit
set_option linter.unusedVariables false
section
noncomputable def rC (k n : Int) : Cn := ⟨10, [(5, .pointer (some ⟨0, 0, none⟩)), (6, .int .i64 k), (7, .slice (some ⟨1, 0, none⟩) 1 1)], [.cells [.int .i64 1, .slice none 0 0, .slice none 0 0, .slice none 0 0, .slice none 0 0, .pointer (some ⟨2, 0, none⟩), .bool false, .bool false] 53 false,
  .cells [.string ⟨#[119, 101, 105, 103, 104, 116]⟩, .int .i64 2, .int .i64 n, .string ⟨#[]⟩, .slice none 0 0] 42 false, .cells [.int .i64 0, .int .u64 0, .slice none 0 0] 66 false]⟩
noncomputable def eC (u : Int) : Int := IntKind.i64.wrap ((IntKind.u64.wrap u).tmod 4)
noncomputable def eW (v : Int) : Int := IntKind.i64.wrap (1 + IntKind.i64.wrap ((IntKind.u64.wrap v).tmod 4))
theorem r1_run (u v : Int) : viewN [5, 6, 7] [0, 9, 6] (rx1 u v) = some ((rC (eC u) (eW v)).view 142 [0, 9, 6]) := by kernel_rfl
theorem rC_ok (k n : Int) : (rC k n).okB [0, 9, 6] = true := by kernel_rfl
theorem eC_some (u : Int) : eC u = 0 ∨ eC u = 1 ∨ eC u = 2 ∨ eC u = 3 := by
  have h1 : IntKind.u64.wrap u = u % 18446744073709551616 := by simp [IntKind.wrap, IntKind.signed, IntKind.bits]
  have h2 : (IntKind.u64.wrap u).tmod 4 = (u % 18446744073709551616) % 4 := by
    rw [h1, Int.tmod_eq_emod_of_nonneg (Int.emod_nonneg _ (by decide))]
  unfold eC
  rw [h2, IntKind.wrap_i64]
  omega
theorem eW_some (u : Int) : eW u = 1 ∨ eW u = 2 ∨ eW u = 3 ∨ eW u = 4 := by
  have h1 : IntKind.u64.wrap u = u % 18446744073709551616 := by simp [IntKind.wrap, IntKind.signed, IntKind.bits]
  have h2 : (IntKind.u64.wrap u).tmod 4 = (u % 18446744073709551616) % 4 := by
    rw [h1, Int.tmod_eq_emod_of_nonneg (Int.emod_nonneg _ (by decide))]
  unfold eW
  rw [h2, IntKind.wrap_i64, IntKind.wrap_i64]
  omega
noncomputable def rF (k n : Int) (x : Nat → Value) : ExR := execB p16 K17 1000000 none (q6t 5) ((rC k n).fr 142 x) (rC k n).h
end
end Go.Eng
