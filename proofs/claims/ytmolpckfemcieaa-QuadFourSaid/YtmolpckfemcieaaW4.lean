/-
  The walks of the four sums and back, the program's.
  Conditions: none.
-/
import Derived.Test.YtmolpckfemcieaaW3
namespace Go.Proofs.Ytmolpckfemcieaa
open Go.RowKit Go.Proofs.YtmolpckfemcieaaFl Go.Proofs.YtmolpckfemcieaaG
set_option maxHeartbeats 4000000

theorem Four_is (x : Nat → Nat × Nat) (w : World) :
    Calls Try.prog 15 #[.agg #[.complex .f64 (x 0).1 (x 0).2, .complex .f64 (x 1).1 (x 1).2, .complex .f64 (x 2).1 (x 2).2, .complex .f64 (x 3).1 (x 3).2]] w fun e w' => ∃ o : Nat → Nat × Nat, e = .returned (.agg #[.complex .f64 (o 0).1 (o 0).2, .complex .f64 (o 1).1 (o 1).2, .complex .f64 (o 2).1 (o 2).2, .complex .f64 (o 3).1 (o 3).2]) ∧
        (∀ k, k < 4 → crd (o k) = part (fun j => crd (x j)) (-1 * (k : Nat)) 3) ∧ Below w.heap.size w w' := by
  go_enter Try.func15, Try.ntmps15
  go_wp2_with (go_at_call 26; refine (turned_is x (-1) _).mono ?_; rintro e w' ⟨o, rfl, ho, hb⟩; have hz := (Four.new (w.alloc (.cells #[.complex .f64 (x 0).1 (x 0).2, .complex .f64 (x 1).1 (x 1).2, .complex .f64 (x 2).1 (x 2).2, .complex .f64 (x 3).1 (x 3).2] 33)) (w.heap.size + 1) (by simp only [World.size_alloc]) (fun _ => (0, 0)) 33).below hb (by simp only [World.size_alloc]; omega); have hz0 := hz.cell 0 (by omega); have hz1 := hz.cell 1 (by omega); have hz2 := hz.cell 2 (by omega); have hz3 := hz.cell 3 (by omega); have hzf0 := hz.free 0; have hzf1 := hz.free 1; have hzf2 := hz.free 2; have hzf3 := hz.free 3; have hsz := hb.size; have hbl := (Below.alloc (Below.alloc (Below.refl w.heap.size w) (Nat.le_refl _) (.cells #[.complex .f64 (x 0).1 (x 0).2, .complex .f64 (x 1).1 (x 1).2, .complex .f64 (x 2).1 (x 2).2, .complex .f64 (x 3).1 (x 3).2] 33)) (by simp only [World.size_alloc]; omega) (.cells #[.complex .f64 0 0, .complex .f64 0 0, .complex .f64 0 0, .complex .f64 0 0] 33)).trans (hb.mono (by simp only [World.size_alloc]; omega)); clear hb hsz)
  refine bodyPost_ret_by (Four.result (hz.put4 o) rfl rfl) rfl ⟨o, rfl, ho, ?_⟩
  refine Below.setCell (Below.setCell (Below.setCell (Below.setCell hbl ?_ _) ?_ _) ?_ _) ?_ _
  all_goals
    show w.heap.size ≤ w.heap.size + 1
    omega

theorem index4_at (o : Nat → Nat × Nat) {i : Nat} (hi : i < 4) (w : World) : (Instr.index 33 (.agg #[.complex .f64 (o 0).1 (o 0).2, .complex .f64 (o 1).1 (o 1).2, .complex .f64 (o 2).1 (o 2).2, .complex .f64 (o 3).1 (o 3).2]) (.int .i64 (i : Int))).run Try.prog w = .ok (.complex .f64 (o i).1 (o i).2) w := by
  have : i = 0 ∨ i = 1 ∨ i = 2 ∨ i = 3 := by omega
  rcases this with rfl | rfl | rfl | rfl
  · exact index4_0 _ _ _ _ w
  · exact index4_1 _ _ _ _ w
  · exact index4_2 _ _ _ _ w
  · exact index4_3 _ _ _ _ w
def cquart (c : C) : C := (lift .quo c.1 (rd 4616189618054758400), lift .quo c.2 (rd 4616189618054758400))
theorem Back_is (x : Nat → Nat × Nat) (w : World) :
    Calls Try.prog 17 #[.agg #[.complex .f64 (x 0).1 (x 0).2, .complex .f64 (x 1).1 (x 1).2, .complex .f64 (x 2).1 (x 2).2, .complex .f64 (x 3).1 (x 3).2]] w fun e w' => ∃ o : Nat → Nat × Nat, e = .returned (.agg #[.complex .f64 (o 0).1 (o 0).2, .complex .f64 (o 1).1 (o 1).2, .complex .f64 (o 2).1 (o 2).2, .complex .f64 (o 3).1 (o 3).2]) ∧
        (∀ k, k < 4 → crd (o k) = cquart (part (fun j => crd (x j)) (1 * (k : Nat)) 3)) ∧ Below w.heap.size w w' := by
  go_enter Try.func17, Try.ntmps17
  go_wp2_with (go_at_call 26; refine (turned_is x 1 _).mono ?_; rintro e w' ⟨o, rfl, ho, hb⟩; have hz := (Four.new (w.alloc (.cells #[.complex .f64 (x 0).1 (x 0).2, .complex .f64 (x 1).1 (x 1).2, .complex .f64 (x 2).1 (x 2).2, .complex .f64 (x 3).1 (x 3).2] 33)) (w.heap.size + 1) (by simp only [World.size_alloc]) (fun _ => (0, 0)) 33).below hb (by simp only [World.size_alloc]; omega); have hz0 := hz.cell 0 (by omega); have hz1 := hz.cell 1 (by omega); have hz2 := hz.cell 2 (by omega); have hz3 := hz.cell 3 (by omega); have hzf0 := hz.free 0; have hzf1 := hz.free 1; have hzf2 := hz.free 2; have hzf3 := hz.free 3; have hsz := hb.size; have hbl := (Below.alloc (Below.alloc (Below.refl w.heap.size w) (Nat.le_refl _) (.cells #[.complex .f64 (x 0).1 (x 0).2, .complex .f64 (x 1).1 (x 1).2, .complex .f64 (x 2).1 (x 2).2, .complex .f64 (x 3).1 (x 3).2] 33)) (by simp only [World.size_alloc]; omega) (.cells #[.complex .f64 0 0, .complex .f64 0 0, .complex .f64 0 0, .complex .f64 0 0] 33)).trans (hb.mono (by simp only [World.size_alloc]; omega)); clear hb)
  have hsz2 : w.heap.size + 1 < w'.heap.size := by
    simp only [World.size_alloc] at hsz
    omega
  clear hsz
  go_loopg [9] 4 (fun g v9 wr => ∃ (i : Nat) (y z : Nat → Nat × Nat), v9 = .int .i64 i ∧ g + i = 4 ∧ Four wr w'.heap.size y ∧ Four wr (w.heap.size + 1) z ∧ Below w.heap.size w wr ∧ ∀ j, j < i → crd (y j) = cquart (crd (o j)))
  case atStart =>
    refine ⟨0, o, fun _ => (0, 0), rfl, rfl, Four.new _ _ rfl o 33, hz.old hsz2 _, hbl.alloc (by omega) _, fun j hj => absurd hj (by omega)⟩
  case round =>
    clear hz hz0 hz1 hz2 hz3 hzf0 hzf1 hzf2 hzf3 hbl
    obtain ⟨i, y, z, rfl, hg, hy, hz, hbl, hdone⟩ := hrel
    have hi0 : (0 : Int) ≤ (i : Int) := by omega
    by_cases hi : i < 4
    · have hi4 : (i : Int) < 4 := by omega
      have hidx := index4_at o hi
      have hyi := hy.cell i hi
      have hyf := hy.free i
      go_wp2_with (refine goesB_ _ rfl rfl (.float .f64 _) (.float .f64 _) rfl rfl rfl rfl ((float_yields _ (by simp) _ _ _ _).mono ?_); rintro e w' ⟨n_, k_, rfl, rfl, hn_⟩; refine ⟨_, rfl, ?_⟩)
      rename_i n1 k1 h1
      go_roundg (gk - 1)
      case measure => omega
      case rel =>
        refine ⟨i + 1, upd y i (n1, n_), z, rfl, by omega, (hy.drewN _).put hi _ _, (hz.drewN _).keep (by show w'.heap.size ≠ _; omega) _, (below_drewN hbl _).setCell (by show w.heap.size ≤ w'.heap.size; omega) _, fun j hj => ?_⟩
        by_cases e : j = i
        · subst e
          rw [upd_same]
          unfold crd cquart
          rw [h1, hn_]
        · rw [upd_other e]
          exact hdone j (by omega)
    · obtain rfl : i = 4 := by omega
      have hy0 := hy.cell 0 (by omega)
      have hy1 := hy.cell 1 (by omega)
      have hy2 := hy.cell 2 (by omega)
      have hy3 := hy.cell 3 (by omega)
      have hz0 := hz.cell 0 (by omega); have hz1 := hz.cell 1 (by omega); have hz2 := hz.cell 2 (by omega); have hz3 := hz.cell 3 (by omega); have hzf0 := hz.free 0; have hzf1 := hz.free 1; have hzf2 := hz.free 2; have hzf3 := hz.free 3
      go_wp2
      refine bodyPost_ret_by (Four.result (hz.put4 y) rfl rfl) rfl ⟨y, rfl, fun k hk => ?_, ?_⟩
      · rw [hdone k hk, ho k hk]
      · refine Below.setCell (Below.setCell (Below.setCell (Below.setCell hbl ?_ _) ?_ _) ?_ _) ?_ _
        all_goals
          show w.heap.size ≤ w.heap.size + 1
          omega
end Go.Proofs.Ytmolpckfemcieaa
