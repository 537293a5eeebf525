/-
  The walk of QuadEdges.
  Conditions: none.
-/
import Derived.Test.YtmolpckfemcieaaW7
namespace Go.Proofs.Ytmolpckfemcieaa
open Go.RowKit Go.Proofs.YtmolpckfemcieaaFl Go.Proofs.YtmolpckfemcieaaG
set_option maxHeartbeats 1000000

theorem inf_p (w : World) : Calls Try.prog 24 #[.int .i64 1] w fun e w' => e = .returned (.float .f64 9218868437227405312) ∧ w' = w := Inf_is 1 w
theorem inf_m (w : World) : Calls Try.prog 24 #[.int .i64 (-1)] w fun e w' => e = .returned (.float .f64 18442240474082181120) ∧ w' = w := Inf_is (-1) w

theorem QuadEdges_is (a : Int) (_ : (Lit.int .i64 a).wf = true) (b : Int) (_ : (Lit.int .i64 b).wf = true) (w : World) : Calls Try.prog 8 #[.int .i64 a, .int .i64 b] w fun e w' => e = .returned (.bool true) ∧ Below w.heap.size w w' := by
  have hs2 : ∀ c, spin c 2 = (neg c.1, neg c.2) := fun _ => rfl
  have hs1 : ∀ c, spin c (wrap64 (1 + wrap64 (4 * wrap64 ((IntKind.u64.wrap b).tmod 5)))) = (neg c.2, c.1) := by
    intro c
    refine spin_1 (beq_iff_eq.mpr ?_)
    rw [wrap64_mod4, Int.add_emod, wrap64_mod4, Int.mul_emod]
    simp
  have h5 : wrap64 ((IntKind.u64.wrap a).tmod 5) = 0 ∨ wrap64 ((IntKind.u64.wrap a).tmod 5) = 1 ∨ wrap64 ((IntKind.u64.wrap a).tmod 5) = 2 ∨ wrap64 ((IntKind.u64.wrap a).tmod 5) = 3 ∨ wrap64 ((IntKind.u64.wrap a).tmod 5) = 4 := by
    rw [IntKind.wrap_u64]
    unfold wrap64
    have : 0 ≤ a % 18446744073709551616 := Int.emod_nonneg _ (by omega)
    rw [Int.tmod_eq_emod_of_nonneg this]
    omega
  rcases h5 with h5 | h5 | h5 | h5 | h5
  all_goals
   go_enter Try.func8, Try.ntmps8
   go_wp2_with (first
    | (go_at_call 23; refine (Copysign_is _).mono ?_; rintro e w'' ⟨rfl, hw⟩; rw [hw]; clear hw)
    | (go_at_call_of 24 (Value.int IntKind.i64 1); refine (inf_p _).mono ?_; rintro e w'' ⟨rfl, hw⟩; rw [hw]; clear hw)
    | (go_at_call 24; refine (inf_m _).mono ?_; rintro e w'' ⟨rfl, hw⟩; rw [hw]; clear hw)
    | (go_at_call 10; refine (spin_is _ _ _ _).mono ?_; rintro e w'' ⟨rfl, hw⟩; rw [hw]; clear hw)
    | (go_at_call 11; refine (told_is _).mono ?_; rintro e w'' ⟨rfl, hb⟩)
    | (go_at_call 12; refine (Float_is _ _ _).mono ?_; rintro e w'' ⟨rfl, hw⟩; rw [hw]; clear hw))
  all_goals
    go_ret
    refine ⟨rfl, Below.trans (Below.alloc (Below.refl _ _) (Nat.le_refl _) _) (hb.mono ?_)⟩
    rw [World.size_alloc]
    omega
end Go.Proofs.Ytmolpckfemcieaa
