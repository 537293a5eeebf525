/-
  The walk of told.
  Conditions: none.
-/
import Derived.Test.YtmolpckfemcieaaW6
import Derived.Deep.RegionWith
namespace Go.Proofs.Ytmolpckfemcieaa
open Go.RowKit Go.Proofs.YtmolpckfemcieaaFl Go.Proofs.YtmolpckfemcieaaG
set_option maxHeartbeats 800000

theorem turn_1 (w : World) : Calls Try.prog 14 #[.int .i64 1] w fun e w' => e = .returned (.complex .f64 0 4607182418800017408) ∧ w' = w := by
  refine (turn_is 1 w).mono ?_
  rintro e w' ⟨r, i, rfl, rfl, h⟩
  unfold Turned at h
  obtain ⟨rfl, rfl⟩ : r = 0 ∧ i = 4607182418800017408 := by omega
  exact ⟨rfl, rfl⟩
theorem turn_m1 (w : World) : Calls Try.prog 14 #[.int .i64 (-1)] w fun e w' => e = .returned (.complex .f64 0 13830554455654793216) ∧ w' = w := by
  refine (turn_is (-1) w).mono ?_
  rintro e w' ⟨r, i, rfl, rfl, h⟩
  unfold Turned at h
  obtain ⟨rfl, rfl⟩ : r = 0 ∧ i = 13830554455654793216 := by omega
  exact ⟨rfl, rfl⟩
theorem turn_6 (w : World) : Calls Try.prog 14 #[.int .i64 6] w fun e w' => e = .returned (.complex .f64 13830554455654793216 0) ∧ w' = w := by
  refine (turn_is 6 w).mono ?_
  rintro e w' ⟨r, i, rfl, rfl, h⟩
  unfold Turned at h
  obtain ⟨rfl, rfl⟩ : r = 13830554455654793216 ∧ i = 0 := by omega
  exact ⟨rfl, rfl⟩
theorem spin_34 (w : World) : Calls Try.prog 10 #[.complex .f64 4613937818241073152 4616189618054758400, .int .i64 1] w fun e w' => e = .returned (.complex .f64 13839561654909534208 4613937818241073152) ∧ w' = w := by
  refine (spin_is _ _ 1 w).mono ?_
  rintro e w' ⟨rfl, rfl⟩
  exact ⟨rfl, rfl⟩
theorem norm_34 (w : World) : Calls Try.prog 13 #[.complex .f64 4613937818241073152 4616189618054758400] w fun e w' => e = .returned (.float .f64 4627730092099895296) ∧ ∃ k, w' = w.drewN k := by
  refine (norm_is _ _ w).mono ?_
  rintro e w' ⟨r, k, rfl, rfl, h⟩
  have e1 : lift .add (lift .mul (rd 4613937818241073152) (rd 4613937818241073152)) (lift .mul (rd 4616189618054758400) (rd 4616189618054758400)) = some 4627730092099895296 := by kernel_rfl
  rw [e1] at h
  obtain rfl := rd_some h
  exact ⟨rfl, k, rfl⟩
theorem whole_1 (w : World) : Calls Try.prog 22 #[.complex .f64 4611686018427387904 13842939354630062080] w fun e w' => e = .returned (.bool true) ∧ w' = w := by
  refine (Whole_is _ _ w (by kernel_rfl) (by kernel_rfl)).mono ?_
  rintro e w' ⟨rfl, rfl⟩
  refine ⟨?_, rfl⟩
  have : (whole 4611686018427387904 && whole 13842939354630062080) = true := by kernel_rfl
  rw [this]
theorem whole_2 (w : World) : Calls Try.prog 22 #[.complex .f64 0 4602678819172646912] w fun e w' => e = .returned (.bool false) ∧ w' = w := by
  refine (Whole_is _ _ w (by kernel_rfl) (by kernel_rfl)).mono ?_
  rintro e w' ⟨rfl, rfl⟩
  refine ⟨?_, rfl⟩
  have : (whole 0 && whole 4602678819172646912) = false := by kernel_rfl
  rw [this]
theorem crd_some {p : Nat × Nat} {a b : Nat} (h : crd p = (some a, some b)) : p = (a, b) := by
  unfold crd at h
  have h1 := rd_some (congrArg Prod.fst h)
  have h2 := rd_some (congrArg Prod.snd h)
  exact Prod.ext h1 h2
def one4 (j : Nat) : Nat × Nat := if j = 0 then (4607182418800017408, 0) else (0, 0)
theorem four_1 (w : World) : Calls Try.prog 15 #[.agg #[.complex .f64 4607182418800017408 0, .complex .f64 0 0, .complex .f64 0 0, .complex .f64 0 0]] w fun e w' => ∃ o : Nat → Nat × Nat,
    e = .returned (.agg #[.complex .f64 (o 0).1 (o 0).2, .complex .f64 (o 1).1 (o 1).2, .complex .f64 4607182418800017408 0, .complex .f64 (o 3).1 (o 3).2]) ∧ Below w.heap.size w w' := by
  refine (Four_is one4 w).mono ?_
  rintro e w' ⟨o, rfl, ho, hb⟩
  refine ⟨o, ?_, hb⟩
  have h2 := ho 2 (by omega)
  have e2 : part (fun j => crd (one4 j)) (-1 * (2 : Nat)) 3 = (some 4607182418800017408, some 0) := by kernel_rfl
  rw [e2] at h2
  rw [crd_some h2]
theorem sum_2 (w : World) (a : Addr) (h0 : w.cell? a = some (.complex .f64 4607182418800017408 0)) (h1 : w.cell? (a.add 1) = some (.complex .f64 0 4607182418800017408)) :
    Calls Try.prog 16 #[.slice (some a) 2 2] w fun e w' => e = .returned (.complex .f64 4607182418800017408 4607182418800017408) ∧ ∃ k, w' = w.drewN k := by
  refine (Sum_is (some a) 2 [(4607182418800017408, 0), (0, 4607182418800017408)] (by show 2 < _; omega) w ?_).mono ?_
  · intro j v hj
    refine ⟨a, rfl, ?_⟩
    have : j = 0 ∨ j = 1 := by
      have := (List.getElem?_eq_some_iff.1 hj).1
      simp at this
      omega
    rcases this with rfl | rfl
    · obtain rfl := Option.some.inj hj
      rw [show a.add 0 = a from by unfold Addr.add; split <;> simp_all]
      exact h0
    · obtain rfl := Option.some.inj hj
      exact h1
  · rintro e w' ⟨r, i, m, rfl, rfl, h⟩
    have e2 : csum (crd (0, 0)) [(4607182418800017408, 0), (0, 4607182418800017408)] = (some 4607182418800017408, some 4607182418800017408) := by kernel_rfl
    rw [e2] at h
    have := crd_some h
    injection this with h1 h2
    subst h1 h2
    exact ⟨rfl, m, rfl⟩

theorem told_is (w : World) : Calls Try.prog 11 #[] w fun e w' => e = .returned (.bool true) ∧ Below w.heap.size w w' := by
  have o0 : FloatKind.f64.format.order 0 0 = some .eq := by kernel_rfl
  have o1 : FloatKind.f64.format.order 4607182418800017408 4607182418800017408 = some .eq := by kernel_rfl
  have o2 : FloatKind.f64.format.order 13830554455654793216 13830554455654793216 = some .eq := by kernel_rfl
  have o3 : FloatKind.f64.format.order 13839561654909534208 13839561654909534208 = some .eq := by kernel_rfl
  have o4 : FloatKind.f64.format.order 4613937818241073152 4613937818241073152 = some .eq := by kernel_rfl
  have o5 : FloatKind.f64.format.order 4627730092099895296 4627730092099895296 = some .eq := by kernel_rfl
  go_enter Try.func11, Try.ntmps11
  go_wp2_with (first
    | (go_at_call 15; refine (four_1 _).mono ?_; rintro e w' ⟨o, rfl, hb⟩)
    | (go_at_call_of 14 (Value.int IntKind.i64 1); refine (turn_1 _).mono ?_; rintro e w'' ⟨rfl, hw⟩; rw [hw]; clear hw)
    | (go_at_call_of 14 (Value.int IntKind.i64 6); refine (turn_6 _).mono ?_; rintro e w'' ⟨rfl, hw⟩; rw [hw]; clear hw)
    | (go_at_call 14; refine (turn_m1 _).mono ?_; rintro e w'' ⟨rfl, hw⟩; rw [hw]; clear hw)
    | (go_at_call 10; refine (spin_34 _).mono ?_; rintro e w'' ⟨rfl, hw⟩; rw [hw]; clear hw)
    | (go_at_call 13; refine (norm_34 _).mono ?_; rintro e w'' ⟨rfl, k, rfl⟩)
    | (go_at_call_of 22 (Value.complex FloatKind.f64 4611686018427387904 13842939354630062080); refine (whole_1 _).mono ?_; rintro e w'' ⟨rfl, hw⟩; rw [hw]; clear hw)
    | (go_at_call_of 22 (Value.complex FloatKind.f64 0 4602678819172646912); refine (whole_2 _).mono ?_; rintro e w'' ⟨rfl, hw⟩; rw [hw]; clear hw)
    | (go_at_call 16; refine (sum_2 _ _ (by simp [go_sem]) (by simp [go_sem])).mono ?_; rintro e w'' ⟨rfl, k, rfl⟩))
  go_ret
  have hsz := hb.size
  refine ⟨rfl, ?_⟩
  repeat' first | exact hb | refine below_drewN ?_ _ | refine Below.alloc ?_ ?_ _
  all_goals
    try simp only [World.size_alloc, World.heap_drewN]
    omega
end Go.Proofs.Ytmolpckfemcieaa
