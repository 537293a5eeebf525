/-
  The walks of the four sums and back, the document's.
  Conditions: none.
-/
import Derived.Test.YtbkamlkmimfomaaW4
namespace Go.Proofs.Ytbkamlkmimfomaa
open Go.RowKit Go.Proofs.YtbkamlkmimfomaaFl Go.Proofs.YtbkamlkmimfomaaG
set_option maxHeartbeats 4000000

theorem ref_Four_is (x : Nat → Nat × Nat) (w : World) :
    Calls Try.prog 27 #[.agg #[.complex .f64 (x 0).1 (x 0).2, .complex .f64 (x 1).1 (x 1).2, .complex .f64 (x 2).1 (x 2).2, .complex .f64 (x 3).1 (x 3).2]] w fun e w' => ∃ o : Nat → Nat × Nat, e = .returned (.agg #[.complex .f64 (o 0).1 (o 0).2, .complex .f64 (o 1).1 (o 1).2, .complex .f64 (o 2).1 (o 2).2, .complex .f64 (o 3).1 (o 3).2]) ∧
        (∀ k, k < 4 → crd (o k) = part (fun j => crd (x j)) (-1 * (k : Nat)) 3) ∧ Below w.heap.size w w' := by
  go_enter Try.func27, Try.ntmps27
  go_wp2
  go_loopg [4] 4 (fun g v4 wr => ∃ (k : Nat) (o : Nat → Nat × Nat), v4 = .int .i64 k ∧ g + k = 4 ∧ Rows4 w x o wr ∧ ∀ j, j < k → crd (o j) = part (fun j => crd (x j)) (-1 * (j : Nat)) 3)
  case atStart =>
    refine ⟨0, fun _ => (0, 0), rfl, rfl, ⟨?_, ?_, ⟨fun _ => (0, 0), ?_⟩, ?_, ?_⟩, fun j hj => absurd hj (by omega)⟩
    · refine Four.old (Four.old (Four.new _ _ rfl x 50) ?_ _) ?_ _
      all_goals
        simp only [World.size_alloc]
        omega
    · exact Four.new _ _ (by simp only [World.size_alloc]) (fun _ => (0, 0)) 50
    · refine Four.old (Four.new _ _ ?_ (fun _ => (0, 0)) 50) ?_ _
      all_goals
        simp only [World.size_alloc]
        try omega
    · simp only [World.size_alloc]
    · refine Below.alloc (Below.alloc (Below.alloc (Below.refl _ _) (Nat.le_refl _) _) ?_ _) ?_ _
      all_goals
        simp only [World.size_alloc]
        omega
  case round =>
    obtain ⟨k, o, rfl, hg, hR, hdone⟩ := hrel
    obtain ⟨g1, hg1⟩ : ∃ g1, g1 = gk := ⟨_, rfl⟩
    have hk0 : (0 : Int) ≤ (k : Int) := by omega
    by_cases hk : k < 4
    · have hk4 : (k : Int) < 4 := by omega
      have hx0 := hR.arg.cell 0 (by omega)
      go_wp2
      clear hx0
      go_loopg [5, 6] 3 (fun g v5 v6 wr => ∃ (n r i : Nat), v5 = .complex .f64 r i ∧ v6 = .int .i64 n ∧ g + n = 4 ∧ 1 ≤ n ∧ Rows4 w x o wr ∧ crd (r, i) = part (fun j => crd (x j)) (-1 * (k : Nat)) (n - 1))
      case atStart => exact ⟨1, (x 0).1, (x 0).2, rfl, rfl, rfl, by omega, hR, rfl⟩
      case round =>
        clear hR
        obtain ⟨n, r, i, rfl, rfl, hg2, hn1, hR, hpart⟩ := hrel
        have hn0 : (0 : Int) ≤ (n : Int) := by omega
        by_cases hn : n < 4
        · have hn4 : (n : Int) < 4 := by omega
          have hxn := hR.arg.cell n hn
          go_wp2_with (first | (go_at_call 51; refine (ref_spin_is _ _ _ _).mono ?_; rintro e w' ⟨rfl, hw⟩; rw [hw]; clear hw) | (go_at_call 35; refine (ref_plus_is _ _ _ _ _).mono ?_; rintro e w' ⟨r_, i_, m_, rfl, rfl, hr_, hi_⟩))
          go_roundg (gk - 1)
          case measure => omega
          case rel =>
            refine ⟨n + 1, r_, i_, rfl, rfl, by omega, by omega, ⟨hR.arg.drewN _, hR.out.drewN _, hR.res.imp fun z hz => hz.drewN _, hR.size, below_drewN hR.below _⟩, ?_⟩
            obtain ⟨m, rfl⟩ : ∃ m, n = m + 1 := ⟨n - 1, by omega⟩
            refine step_part (o := (r, i)) (m := m) hpart ?_ hr_ hi_
            rw [wrap64_mod4, show (-1 : Int) * (k : Int) = -(k : Int) from by omega]
        · obtain rfl : n = 4 := by omega
          have hok := hR.out.cell k hk
          have hof := hR.out.free k
          go_wp2
          go_roundg (g1 - 1)
          case measure => omega
          case rel =>
            obtain ⟨z, hz⟩ := hR.res
            refine ⟨k + 1, upd o k (r, i), rfl, by omega, ⟨(hR.arg).keep (by show w.heap.size + 1 + 1 ≠ _; omega) _, (hR.out).put hk _ _, ⟨z, (hz).keep (by show w.heap.size + 1 + 1 ≠ _; omega) _⟩, by rw [World.size_setCell]; exact hR.size, hR.below.setCell (by show w.heap.size ≤ w.heap.size + 1 + 1; omega) _⟩, fun j hj => ?_⟩
            by_cases e : j = k
            · subst e
              rw [upd_same]
              exact hpart
            · rw [upd_other e]
              exact hdone j (by omega)
    · obtain rfl : k = 4 := by omega
      obtain ⟨z, hz⟩ := hR.res
      have hy0 := hR.out.cell 0 (by omega)
      have hy1 := hR.out.cell 1 (by omega)
      have hy2 := hR.out.cell 2 (by omega)
      have hy3 := hR.out.cell 3 (by omega)
      have hz0 := hz.cell 0 (by omega); have hz1 := hz.cell 1 (by omega); have hz2 := hz.cell 2 (by omega); have hz3 := hz.cell 3 (by omega); have hzf0 := hz.free 0; have hzf1 := hz.free 1; have hzf2 := hz.free 2; have hzf3 := hz.free 3
      go_wp2
      refine bodyPost_ret_by (Four.result (hz.put4 o) rfl rfl) rfl ⟨o, rfl, hdone, ?_⟩
      refine Below.setCell (Below.setCell (Below.setCell (Below.setCell hR.below ?_ _) ?_ _) ?_ _) ?_ _
      all_goals
        show w.heap.size ≤ w.heap.size + 1
        omega
end Go.Proofs.Ytbkamlkmimfomaa
