/-
  The walks of the four sums and back, the program's.
  Conditions: none.
-/
import Derived.Test.YtbkamlkmimfomaaW3
namespace Go.Proofs.Ytbkamlkmimfomaa
open Go.RowKit Go.Proofs.YtbkamlkmimfomaaFl Go.Proofs.YtbkamlkmimfomaaG
set_option maxHeartbeats 4000000

theorem Four_is (x : Nat → Nat × Nat) (w : World) :
    Calls Try.prog 24 #[.agg #[.complex .f64 (x 0).1 (x 0).2, .complex .f64 (x 1).1 (x 1).2, .complex .f64 (x 2).1 (x 2).2, .complex .f64 (x 3).1 (x 3).2]] w fun e w' => ∃ o : Nat → Nat × Nat, e = .returned (.agg #[.complex .f64 (o 0).1 (o 0).2, .complex .f64 (o 1).1 (o 1).2, .complex .f64 (o 2).1 (o 2).2, .complex .f64 (o 3).1 (o 3).2]) ∧
        (∀ k, k < 4 → crd (o k) = part (fun j => crd (x j)) (-1 * (k : Nat)) 3) ∧ Below w.heap.size w w' := by
  go_enter Try.func24, Try.ntmps24
  go_wp2_with (go_at_call 50; refine (turned_is x (-1) _).mono ?_; rintro e w' ⟨o, rfl, ho, hb⟩; have hz := (Four.new (w.alloc (.cells #[.complex .f64 (x 0).1 (x 0).2, .complex .f64 (x 1).1 (x 1).2, .complex .f64 (x 2).1 (x 2).2, .complex .f64 (x 3).1 (x 3).2] 50)) (w.heap.size + 1) (by simp only [World.size_alloc]) (fun _ => (0, 0)) 50).below hb (by simp only [World.size_alloc]; omega); have hz0 := hz.cell 0 (by omega); have hz1 := hz.cell 1 (by omega); have hz2 := hz.cell 2 (by omega); have hz3 := hz.cell 3 (by omega); have hzf0 := hz.free 0; have hzf1 := hz.free 1; have hzf2 := hz.free 2; have hzf3 := hz.free 3; have hsz := hb.size; have hbl := (Below.alloc (Below.alloc (Below.refl w.heap.size w) (Nat.le_refl _) (.cells #[.complex .f64 (x 0).1 (x 0).2, .complex .f64 (x 1).1 (x 1).2, .complex .f64 (x 2).1 (x 2).2, .complex .f64 (x 3).1 (x 3).2] 50)) (by simp only [World.size_alloc]; omega) (.cells #[.complex .f64 0 0, .complex .f64 0 0, .complex .f64 0 0, .complex .f64 0 0] 50)).trans (hb.mono (by simp only [World.size_alloc]; omega)); clear hb hsz)
  refine bodyPost_ret_by (Four.result (hz.put4 o) rfl rfl) rfl ⟨o, rfl, ho, ?_⟩
  refine Below.setCell (Below.setCell (Below.setCell (Below.setCell hbl ?_ _) ?_ _) ?_ _) ?_ _
  all_goals
    show w.heap.size ≤ w.heap.size + 1
    omega

theorem index4_at (o : Nat → Nat × Nat) {i : Nat} (hi : i < 4) (w : World) : (Instr.index 50 (.agg #[.complex .f64 (o 0).1 (o 0).2, .complex .f64 (o 1).1 (o 1).2, .complex .f64 (o 2).1 (o 2).2, .complex .f64 (o 3).1 (o 3).2]) (.int .i64 (i : Int))).run Try.prog w = .ok (.complex .f64 (o i).1 (o i).2) w := by
  have : i = 0 ∨ i = 1 ∨ i = 2 ∨ i = 3 := by omega
  rcases this with rfl | rfl | rfl | rfl
  · exact index4_0 _ _ _ _ w
  · exact index4_1 _ _ _ _ w
  · exact index4_2 _ _ _ _ w
  · exact index4_3 _ _ _ _ w
end Go.Proofs.Ytbkamlkmimfomaa
