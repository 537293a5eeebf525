/-
  The walk of the four sums of the program.
  Conditions: none.
-/
import Derived.Test.YtbkamlkmimfomaaA4
namespace Go.Proofs.Ytbkamlkmimfomaa
open Go.RowKit Go.Proofs.YtbkamlkmimfomaaFl Go.Proofs.YtbkamlkmimfomaaG
set_option maxHeartbeats 4000000

/-- The rows at a label. -/
structure Rows4 (w : World) (x o : Nat → Nat × Nat) (wr : World) : Prop where
  arg : Four wr w.heap.size x
  out : Four wr (w.heap.size + 1 + 1) o
  res : ∃ z, Four wr (w.heap.size + 1) z
  size : wr.heap.size = w.heap.size + 1 + 1 + 1
  below : Below w.heap.size w wr

theorem i64_mod4 (z : Int) : IntKind.i64.wrap z % 4 = z % 4 := by
  rw [IntKind.wrap_i64]
  omega
theorem step_part {x : Nat → Nat × Nat} {o : Nat × Nat} {q z : Int} {m : Nat} (h : crd o = part (fun j => crd (x j)) q m) (hz : z % 4 = (q * ((m + 1 : Nat) : Int)) % 4) {r i : Nat}
    (hr : rd r = lift .add (rd o.1) (rd (spin ((x (m + 1)).1, (x (m + 1)).2) z).1)) (hi : rd i = lift .add (rd o.2) (rd (spin ((x (m + 1)).1, (x (m + 1)).2) z).2)) : crd (r, i) = part (fun j => crd (x j)) q (m + 1) := by
  have e : crd (spin (x (m + 1)) z) = cspin (crd (x (m + 1))) (q * ((m + 1 : Nat) : Int)) := by rw [crd_spin, cspin_mod _ hz]
  unfold part
  rw [← h, ← e]
  unfold crd cadd
  rw [hr, hi]

theorem turned_is (x : Nat → Nat × Nat) (q : Int) (w : World) :
    Calls Try.prog 50 #[.agg #[.complex .f64 (x 0).1 (x 0).2, .complex .f64 (x 1).1 (x 1).2, .complex .f64 (x 2).1 (x 2).2, .complex .f64 (x 3).1 (x 3).2], .int .i64 q] w fun e w' =>
      ∃ o : Nat → Nat × Nat, e = .returned (.agg #[.complex .f64 (o 0).1 (o 0).2, .complex .f64 (o 1).1 (o 1).2, .complex .f64 (o 2).1 (o 2).2, .complex .f64 (o 3).1 (o 3).2]) ∧
        (∀ k, k < 4 → crd (o k) = part (fun j => crd (x j)) (q * (k : Nat)) 3) ∧ Below w.heap.size w w' := by
  go_enter Try.func50, Try.ntmps50
  go_wp2
  refine wp_scope_g ?_
  intro G hG
  go_wp2
  refine wp_label ?_
  go_step
  go_step
  (try simp only [Act.put, List.setIfInBounds_toArray, List.set_cons_zero, List.set_cons_succ])
  refine rest_loop hG 0 (by rfl) [false, false, false, false, false, false, true, true, true, true, true, true, true, true, true, true, true, true, true, true, true, true, true, true, true, true, true, true, true, true, true, true, true, true, true, true] ?hm 4 (fun kq us wr => ∃ (k : Nat) (o : Nat → Nat × Nat), us.getD 0 undef = .int .i64 k ∧ k < 4 ∧ kq + k = 4 ∧ Rows4 w x o wr ∧ ∀ j, j < k → crd (o j) = part (fun j => crd (x j)) (q * (j : Nat)) 3) ?atStart ?round
  case hm => rfl
  case atStart =>
    refine ⟨0, fun _ => (0, 0), rfl, by omega, by omega, ⟨?_, ?_, ⟨fun _ => (0, 0), ?_⟩, ?_, ?_⟩, fun j hj => absurd hj (by omega)⟩
    · refine Four.old (Four.old (Four.new _ _ rfl x 50) ?_ _) ?_ _
      all_goals
        simp only [World.size_alloc]
        omega
    · exact Four.new _ _ (by simp only [World.size_alloc]) (fun _ => (0, 0)) 50
    · refine Four.old (Four.new _ _ ?_ (fun _ => (0, 0)) 50) ?_ _
      all_goals
        simp only [World.size_alloc]
        try omega
    · simp only [World.size_alloc]
    · refine Below.alloc (Below.alloc (Below.alloc (Below.refl _ _) (Nat.le_refl _) _) ?_ _) ?_ _
      all_goals
        simp only [World.size_alloc]
        omega
  case round =>
    intro u6 u7 u8 u9 u10 u11 u12 u13 u14 u15 u16 u17 u18 u19 u20 u21 u22 u23 u24 u25 u26 u27 u28 u29 u30 u31 u32 u33 u34 u35 kq wr hrel IH
    dsimp only [fillM]
    obtain ⟨k, o, e6, hk, hkq, hR, hdone⟩ := hrel
    have e6 : u6 = .int .i64 k := e6
    subst e6
    clear e6
    have hk0 : (0 : Int) ≤ (k : Int) := by omega
    have hk4 : (k : Int) < 4 := by omega
    have hx0 := hR.arg.cell 0 (by omega)
    have hok := hR.out.cell k hk
    have hof := hR.out.free k
    go_wp2
    refine wp_label ?_
    go_step
    go_step
    (try simp only [Act.put, List.setIfInBounds_toArray, List.set_cons_zero, List.set_cons_succ])
    refine rest_loop hG 1 (by rfl) [false, false, false, false, false, false, false, true, false, false, false, false, true, true, true, true, true, true, true, true, true, true, true, true, true, true, true, true, true, true, true] ?hm 3 (fun nq us wr => ∃ (n : Nat) (o : Nat → Nat × Nat), us.getD 0 undef = .int .i64 n ∧ 1 ≤ n ∧ n < 4 ∧ nq + n = 4 ∧ Rows4 w x o wr ∧ (∀ j, j < k → crd (o j) = part (fun j => crd (x j)) (q * (j : Nat)) 3) ∧ crd (o k) = part (fun j => crd (x j)) (q * (k : Nat)) (n - 1)) ?atStart ?round
    case hm => rfl
    case atStart =>
      refine ⟨1, upd o k (x 0), rfl, by omega, by omega, by omega, ⟨hR.arg.keep ?_ _, hR.out.put hk _ _, ?_, ?_, hR.below.setCell ?_ _⟩, fun j hj => ?_, ?_⟩
      · show w.heap.size + 1 + 1 ≠ _
        omega
      · obtain ⟨z, hz⟩ := hR.res
        exact ⟨z, hz.keep (by show w.heap.size + 1 + 1 ≠ _; omega) _⟩
      · rw [World.size_setCell]
        exact hR.size
      · show w.heap.size ≤ w.heap.size + 1 + 1
        omega
      · rw [upd_other (by omega)]
        exact hdone j hj
      · rw [upd_same]
        rfl
    case round =>
      clear hx0 hok hof hR hdone
      clear o wr
      intro v7 v12 v13 v14 v15 v16 v17 v18 v19 v20 v21 v22 v23 v24 v25 v26 v27 v28 v29 v30 nq wr hrel IH2
      dsimp only [fillM]
      obtain ⟨n, o, e7, hn1, hn, hnq, hR, hdone, hpart⟩ := hrel
      have e7 : v7 = .int .i64 n := e7
      subst e7
      clear e7
      have hn0 : (0 : Int) ≤ (n : Int) := by omega
      have hn4 : (n : Int) < 4 := by omega
      have hxn := hR.arg.cell n hn
      have hok := hR.out.cell k hk
      have hof := hR.out.free k
      go_wp2
      go_region_with
        (first | (go_at_call 20; refine (spin_is _ _ _ _).mono ?_; rintro e w' ⟨rfl, rfl⟩) | (go_at_call 53; refine (plus_is _ _ _ _ _).mono ?_; rintro e w' ⟨r_, i_, m_, rfl, rfl, hr_, hi_⟩))
      all_goals
        have hR2 : Rows4 w x (upd o k (r_, i_)) ((wr.drewN (1 + m_)).setCell ⟨w.heap.size + 1 + 1, k, none⟩ (.complex .f64 r_ i_)) := by
          refine ⟨(hR.arg.drewN _).keep ?_ _, (hR.out.drewN _).put hk _ _, ?_, ?_, (below_drewN hR.below _).setCell ?_ _⟩
          · show w.heap.size + 1 + 1 ≠ _
            omega
          · obtain ⟨z, hz⟩ := hR.res
            exact ⟨z, (hz.drewN _).keep (by show w.heap.size + 1 + 1 ≠ _; omega) _⟩
          · rw [World.size_setCell]
            exact hR.size
          · show w.heap.size ≤ w.heap.size + 1 + 1
            omega
        have hd2 : ∀ j, j < k → crd (upd o k (r_, i_) j) = part (fun j => crd (x j)) (q * (j : Nat)) 3 := fun j hj => by
          rw [upd_other (by omega)]
          exact hdone j hj
        have hp2 : crd (upd o k (r_, i_) k) = part (fun j => crd (x j)) (q * (k : Nat)) n := by
          obtain ⟨m, rfl⟩ : ∃ m, n = m + 1 := ⟨n - 1, by omega⟩
          rw [upd_same]
          refine step_part (m := m) hpart ?_ hr_ hi_
          rw [i64_mod4, Int.mul_emod, i64_mod4, ← Int.mul_emod]
        generalize (wr.drewN (1 + m_)).setCell ⟨w.heap.size + 1 + 1, k, none⟩ (.complex .f64 r_ i_) = W2 at hR2 ⊢
        generalize upd o k (r_, i_) = o2 at hR2 hd2 hp2
        generalize spin ((x n).fst, (x n).snd) (IntKind.i64.wrap (IntKind.i64.wrap (q * (k : Int)) * (n : Int))) = sp
        clear hxn hok hof hpart hdone hR hr_ hi_
        have hc0 := hR2.out.cell 0 (by omega)
        have hc1 := hR2.out.cell 1 (by omega)
        have hc2 := hR2.out.cell 2 (by omega)
        have hc3 := hR2.out.cell 3 (by omega)
        obtain ⟨z, hz⟩ := hR2.res
        have hz0 := hz.cell 0 (by omega)
        have hz1 := hz.cell 1 (by omega)
        have hz2 := hz.cell 2 (by omega)
        have hz3 := hz.cell 3 (by omega)
        have hf0 := hz.free 0
        have hf1 := hz.free 1
        have hf2 := hz.free 2
        have hf3 := hz.free 3
      all_goals go_wp2
      all_goals first
        | (refine wp_goto ?_
           change G 1 _ _
           refine IH2.out (nq - 1) _ _ ?_ rfl ?_
           · omega
           · exact ⟨n + 1, o2, rfl, by omega, by omega, by omega, hR2, hd2, hp2⟩)
        | (refine wp_goto ?_
           change G 0 _ _
           refine IH.out (kq - 1) _ _ ?_ rfl ?_
           · omega
           · refine ⟨k + 1, o2, rfl, by omega, by omega, hR2, fun j hj => ?_⟩
             by_cases e : j = k
             · subst e
               obtain rfl : n = 3 := by omega
               exact hp2
             · exact hd2 j (by omega))
        | (rw [scoped_ret]
           obtain rfl : k = 3 := by omega
           obtain rfl : n = 3 := by omega
           refine bodyPost_ret_by (Four.result (hz.put4 o2) rfl rfl) rfl ⟨o2, rfl, fun j hj => ?_, ?_⟩
           · by_cases e : j = 3
             · subst e
               exact hp2
             · exact hd2 j (by omega)
           · refine Below.setCell (Below.setCell (Below.setCell (Below.setCell hR2.below ?_ _) ?_ _) ?_ _) ?_ _
             all_goals
               show w.heap.size ≤ w.heap.size + 1
               omega)
end Go.Proofs.Ytbkamlkmimfomaa
