/-
  The walks of the small functions on turns: Z, Spin, Norm, Turn, plus, Whole, and the document's.
  Conditions: none.
-/
import Derived.Test.YtbkamlkmimfomaaRows
import Derived.Test.YtbkamlkmimfomaaGx
import Derived.Test.YtbkamlkmimfomaaIv
namespace Go.Proofs.Ytbkamlkmimfomaa
open Go.RowKit Go.Proofs.YtbkamlkmimfomaaFl Go.Proofs.YtbkamlkmimfomaaG

@[go_sem] theorem unary_neg_float (b : Nat) : Op.unary .neg (.float .f64 b) = pure (.float .f64 (neg b)) := rfl

theorem quarter_is (k : Int) (w : World) : Calls Try.prog 62 #[.int .i64 k] w fun e w' => e = .returned (.int .i64 (k % 4)) ∧ w' = w := by
  go_enter Try.func62, Try.ntmps62
  go_wp2
  go_ret
  exact ⟨rfl, rfl⟩
theorem plus_is (a b c d : Nat) (w : World) : Calls Try.prog 53 #[.complex .f64 a b, .complex .f64 c d] w fun e w' => ∃ r i k, e = .returned (.complex .f64 r i) ∧ w' = w.drewN k ∧ rd r = lift .add (rd a) (rd c) ∧ rd i = lift .add (rd b) (rd d) := by
  go_enter Try.func53, Try.ntmps53
  go_wp2_with (refine goesB_ _ rfl rfl (.float .f64 _) (.float .f64 _) rfl rfl rfl rfl ((float_yields _ (by simp) _ _ _ _).mono ?_); rintro e w' ⟨n_, k_, rfl, rfl, hn_⟩; refine ⟨_, rfl, ?_⟩)
  go_ret
  exact ⟨_, _, _, rfl, rfl, ‹_›, ‹_›⟩
theorem ref_plus_is (a b c d : Nat) (w : World) : Calls Try.prog 35 #[.complex .f64 a b, .complex .f64 c d] w fun e w' => ∃ r i k, e = .returned (.complex .f64 r i) ∧ w' = w.drewN k ∧ rd r = lift .add (rd a) (rd c) ∧ rd i = lift .add (rd b) (rd d) := by
  go_enter Try.func35, Try.ntmps35
  go_wp2_with (refine goesB_ _ rfl rfl (.float .f64 _) (.float .f64 _) rfl rfl rfl rfl ((float_yields _ (by simp) _ _ _ _).mono ?_); rintro e w' ⟨n_, k_, rfl, rfl, hn_⟩; refine ⟨_, rfl, ?_⟩)
  go_ret
  exact ⟨_, _, _, rfl, rfl, ‹_›, ‹_›⟩

/-- A number turned by quarters. -/
def spin (c : Nat × Nat) (k : Int) : Nat × Nat := if k % 4 = 0 then c else if k % 4 = 2 then (neg c.1, neg c.2) else if k % 4 = 1 then (neg c.2, c.1) else (c.2, neg c.1)
theorem spin_0 {c : Nat × Nat} {k : Int} (h : (k % 4 == 0) = true) : spin c k = c := by
  unfold spin
  rw [if_pos (beq_iff_eq.mp h)]
theorem spin_2 {c : Nat × Nat} {k : Int} (h : (k % 4 == 2) = true) : spin c k = (neg c.1, neg c.2) := by
  have h := beq_iff_eq.mp h
  unfold spin
  rw [if_neg (by omega), if_pos h]
theorem spin_1 {c : Nat × Nat} {k : Int} (h : (k % 4 == 1) = true) : spin c k = (neg c.2, c.1) := by
  have h := beq_iff_eq.mp h
  unfold spin
  rw [if_neg (by omega), if_neg (by omega), if_pos h]
theorem spin_3 {c : Nat × Nat} {k : Int} (h0 : (k % 4 == 0) = false) (h1 : (k % 4 == 1) = false) (h2 : (k % 4 == 2) = false) : spin c k = (c.2, neg c.1) := by
  have h0 := beq_eq_false_iff_ne.mp h0
  have h1 := beq_eq_false_iff_ne.mp h1
  have h2 := beq_eq_false_iff_ne.mp h2
  unfold spin
  rw [if_neg h0, if_neg h2, if_neg h1]

theorem ref_spin_is (a b : Nat) (k : Int) (w : World) : Calls Try.prog 51 #[.complex .f64 a b, .int .i64 k] w fun e w' => e = .returned (.complex .f64 (spin (a, b) k).1 (spin (a, b) k).2) ∧ w' = w := by
  go_enter Try.func51, Try.ntmps51
  go_wp2_with (go_at_call 62; refine (quarter_is _ _).mono ?_; rintro e w' ⟨rfl, hw⟩; rw [hw])
  all_goals go_ret
  all_goals first | (rw [spin_0 ‹_›]; exact ⟨rfl, rfl⟩) | (rw [spin_1 ‹_›]; exact ⟨rfl, rfl⟩) | (rw [spin_2 ‹_›]; exact ⟨rfl, rfl⟩) | (rw [spin_3 ‹_› ‹_› ‹_›]; exact ⟨rfl, rfl⟩)

theorem spin_is (a b : Nat) (k : Int) (w : World) : Calls Try.prog 20 #[.complex .f64 a b, .int .i64 k] w fun e w' => e = .returned (.complex .f64 (spin (a, b) k).1 (spin (a, b) k).2) ∧ w' = w := by
  go_enter Try.func20, Try.ntmps20
  go_wp2
  refine wp_scope_g ?_
  intro G hG
  go_wp2
  refine wp_label ?_
  go_step
  go_step
  go_wp2
  · rw [scoped_ret]
    go_ret
    rw [spin_0 ‹_›]
    exact ⟨rfl, rfl⟩
  · rw [scoped_ret]
    go_ret
    rw [spin_2 ‹_›]
    exact ⟨rfl, rfl⟩
  · rw [scoped_ret]
    go_ret
    rw [spin_1 ‹_›]
    exact ⟨rfl, rfl⟩
  · refine wp_goto ?_
    refine at_label hG (l := 0) (by rfl) ?_
    go_wp2
    rw [scoped_ret]
    go_ret
    rw [spin_3 ‹_› ‹_› ‹_›]
    exact ⟨rfl, rfl⟩
theorem norm_is (a b : Nat) (w : World) : Calls Try.prog 25 #[.complex .f64 a b] w fun e w' => ∃ r k, e = .returned (.float .f64 r) ∧ w' = w.drewN k ∧ rd r = lift .add (lift .mul (rd a) (rd a)) (lift .mul (rd b) (rd b)) := by
  go_enter Try.func25, Try.ntmps25
  go_wp2_with (refine goesB_ _ rfl rfl (.float .f64 _) (.float .f64 _) rfl rfl rfl rfl ((float_yields _ (by simp) _ _ _ _).mono ?_); rintro e w' ⟨n_, k_, rfl, rfl, hn_⟩; refine ⟨_, rfl, ?_⟩)
  go_ret
  exact ⟨_, _, rfl, rfl, by simp only [*]⟩
@[go_sem] theorem index4_0 (a b c d : Value) (w : World) : (Instr.index 50 (.agg #[a, b, c, d]) (.int .i64 0)).run Try.prog w = .ok a w := by
  simp [Instr.index, asIntOf, run_underlying Try.underlying50, part, go_sem]
@[go_sem] theorem index4_1 (a b c d : Value) (w : World) : (Instr.index 50 (.agg #[a, b, c, d]) (.int .i64 1)).run Try.prog w = .ok b w := by
  simp [Instr.index, asIntOf, run_underlying Try.underlying50, part, go_sem]
@[go_sem] theorem index4_2 (a b c d : Value) (w : World) : (Instr.index 50 (.agg #[a, b, c, d]) (.int .i64 2)).run Try.prog w = .ok c w := by
  simp [Instr.index, asIntOf, run_underlying Try.underlying50, part, go_sem]
@[go_sem] theorem index4_3 (a b c d : Value) (w : World) : (Instr.index 50 (.agg #[a, b, c, d]) (.int .i64 3)).run Try.prog w = .ok d w := by
  simp [Instr.index, asIntOf, run_underlying Try.underlying50, part, go_sem]
end Go.Proofs.Ytbkamlkmimfomaa
