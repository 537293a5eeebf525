/-
  The walk of PlanBeat.
  Conditions: none.
-/
import Derived.Test.YtbkamlkmimfomaaPl
namespace Go.Proofs.Ytbkamlkmimfomaa
open Go.RowKit Go.Proofs.YtbkamlkmimfomaaW.PrintWords Go.Proofs.YtbkamlkmimfomaaFl Go.Proofs.YtbkamlkmimfomaaG Go.Proofs.YtbkamlkmimfomaaIv
set_option linter.unusedVariables false
set_option linter.unusedSimpArgs false

theorem um (a : Int) : 0 ≤ wrap64 ((IntKind.u64.wrap a).tmod 1000000) ∧ wrap64 ((IntKind.u64.wrap a).tmod 1000000) < 1000000 := by
  have h : IntKind.u64.wrap a = a % 18446744073709551616 := rfl
  have h0 : 0 ≤ a % 18446744073709551616 := Int.emod_nonneg _ (by decide)
  rw [h, Int.tmod_eq_emod_of_nonneg h0, wr64 _ (by omega) (by omega)]
  omega
theorem eq_ic {r i F : Nat} {d : Int} (h : IC (crd (r, i)) (d, 0)) (hF : IV F d) : (FloatKind.f64.format.order r F == some .eq) = true ∧ (FloatKind.f64.format.order i 0 == some .eq) = true := ⟨(eq_iv (io_rd h.1) hF).trans (decide_eq_true rfl), (eq_iv (io_rd h.2) iv_zero).trans (decide_eq_true rfl)⟩
set_option maxHeartbeats 8000000 in
theorem PlanBeat_is (a b : Int) (w : World) : Calls Try.prog 4 #[.int .i64 a, .int .i64 b] w fun e w' => e = .returned (.bool true) ∧ Below w.heap.size w w' := by
  go_enter Try.func4, Try.ntmps4
  go_wp2_with (go_at_call 8; refine halt_here ?_)
  obtain ⟨x, hx⟩ : ∃ x, wrap64 ((IntKind.u64.wrap a).tmod 1000000) = x := ⟨_, rfl⟩
  obtain ⟨y, hy⟩ : ∃ y, wrap64 ((IntKind.u64.wrap b).tmod 1000000) = y := ⟨_, rfl⟩
  have hxr := um a
  have hyr := um b
  rw [hx] at hxr ⊢
  rw [hy] at hyr ⊢
  clear hx hy
  refine Hid2.mk ?_
  have h1 := beat_same x hxr
  have h2 := beat_two x y hxr hyr
  have H1 := Aside0.mk h1.2
  have H2 := Aside0.mk h2.2
  have g1 := Aside0.mk h1.1
  have g2 := Aside0.mk h2.1
  refine (Beat_is x x x x w).mono ?_
  rintro e wa ⟨r1, i1, rfl, hc, hb⟩
  have HB1 := Aside0.mk hb
  rw [H1.out]
  have hc1 := g1.out
  rw [← hc] at hc1
  have q1 : (FloatKind.f64.format.order r1 0 == some .eq) = true := eq_iv (io_rd hc1.1) iv_zero
  have q2 : (FloatKind.f64.format.order i1 0 == some .eq) = true := eq_iv (io_rd hc1.2) iv_zero
  have m1 : wrap64 (2 * x) = 2 * x := wr64 _ (by omega) (by omega)
  have m2 : wrap64 (2 * y) = 2 * y := wr64 _ (by omega) (by omega)
  have m3 : wrap64 (2 * x - 2 * y) = 2 * x - 2 * y := wr64 _ (by omega) (by omega)
  obtain ⟨F, hF⟩ : ∃ F, floatOfInt .f64 (2 * x - 2 * y) = F := ⟨_, rfl⟩
  have hFI : Aside0 (IV F (2 * x - 2 * y)) := ⟨by rw [← hF]; exact iv_of_int _ (by omega)⟩
  clear hc hc1 hb h1 h2 hxr hyr
  go_wp2_with (first
    | (go_at_call 8; with_reducible refine (Beat_is x y x y _).mono ?_; rintro e wb ⟨r2, i2, rfl, hc, hb⟩; rw [H2.out]; have HB2 := Aside0.mk (thn5 HB1.out hb); have hc2 := g2.out; rw [← hc] at hc2; obtain ⟨q3, q4⟩ := eq_ic hc2 hFI.out; clear hc hc2 hb)
    | (go_at_call 7; with_reducible refine (told_is _).mono ?_; rintro e wc ⟨rfl, hb⟩; have HB3 := Aside0.mk (thn5 HB2.out hb); clear hb))
  go_ret
  exact ⟨by first | rfl | (simp; done), HB3.out⟩
end Go.Proofs.Ytbkamlkmimfomaa
