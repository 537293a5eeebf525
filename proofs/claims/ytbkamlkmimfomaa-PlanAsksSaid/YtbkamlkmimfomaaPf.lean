/-
  A number's direction: its contract.
  Conditions: none.
-/
import Derived.Test.YtbkamlkmimfomaaPe
import Derived.Test.YtbkamlkmimfomaaZq
namespace Go.Proofs.Ytbkamlkmimfomaa
open Go.RowKit Go.Proofs.YtbkamlkmimfomaaW.PrintWords Go.Proofs.YtbkamlkmimfomaaW.PrintLast Go.Proofs.YtbkamlkmimfomaaFl Go.Proofs.YtbkamlkmimfomaaG Go.Proofs.YtbkamlkmimfomaaIv Go.Proofs.Ytbkamlkmimfomaa.PGa
set_option linter.unusedVariables false
set_option linter.unusedSimpArgs false

theorem abs_bits (a : Nat) : (Go.bits .andNot .u64 (a : Int) 9223372036854775808).toNat = a % 9223372036854775808 := by
  have h : (BitVec.ofInt 64 (a : Int) &&& ~~~ BitVec.ofInt 64 9223372036854775808).toNat = a % 9223372036854775808 := by
    have e : (~~~ BitVec.ofInt 64 9223372036854775808 : BitVec 64) = 9223372036854775807#64 := by decide
    have e2 : (BitVec.ofInt 64 (a : Int)).toNat = a % 2 ^ 64 := by simp [BitVec.ofInt_natCast]
    rw [e, BitVec.toNat_and, e2, show (9223372036854775807#64).toNat = 2 ^ 63 - 1 from rfl, Nat.and_two_pow_sub_one_eq_mod]
    omega
  show (IntKind.u64.wrap (((BitVec.ofInt 64 (a : Int) &&& ~~~ BitVec.ofInt 64 9223372036854775808).toNat : Nat) : Int)).toNat = _
  rw [h]
  have : IntKind.u64.wrap ((a % 9223372036854775808 : Nat) : Int) = ((a % 9223372036854775808 : Nat) : Int) := by
    show ((a % 9223372036854775808 : Nat) : Int) % 18446744073709551616 = _
    omega
  rw [this]
  rfl
/-- A number without its sign. -/
def absN (a : Nat) : Nat := a % 9223372036854775808
theorem Abs_is (a : Nat) (w : World) : Calls Try.prog 55 #[.float .f64 a] w fun e w' => e = .returned (.float .f64 (absN a)) ∧ w' = w := by
  unfold absN
  rw [← abs_bits]
  go_enter Try.func55, Try.ntmps55
  go_wp2
  go_ret
  exact ⟨rfl, rfl⟩
theorem read_like {n m : Nat} (h1 : n % 9223372036854775808 = m % 9223372036854775808) (h2 : n / 9223372036854775808 % 2 = m / 9223372036854775808 % 2) : Ieee.double.read n = Ieee.double.read m := by
  unfold Ieee.Format.read
  simp only [d_sw, h1, h2]
theorem iv_abs {a : Nat} {i : Int} (h : IV a i) : IV (absN a) (i.natAbs : Int) := by
  have key : ∀ {b : Nat} {j : Int}, IV b j → b / 9223372036854775808 % 2 = 0 → absN a = b % 9223372036854775808 → j.natAbs = i.natAbs → IV (absN a) (i.natAbs : Int) := by
    intro b j hb h0 ha hj
    obtain ⟨s, p, hr, hs⟩ := hb
    have e : Ieee.double.read (absN a) = Ieee.double.read b := read_like (by rw [ha]; omega) (by rw [ha]; omega)
    refine ⟨s, p, ?_, ?_⟩
    · rw [e, hr, Int.natAbs_natCast, hj]
    · intro hi
      have hj0 : j ≠ 0 := by omega
      have hsj := hs hj0
      have hsf : s = false := by
        have hr' := hr
        unfold Ieee.Format.read at hr'
        simp only [d_sw, h0] at hr'
        split at hr'
        · injection hr' with a1; exact a1.symm
        · split at hr'
          · injection hr' with a1; exact a1.symm
          · split at hr' <;> cases hr'
      rw [hsf]
      symm
      rw [decide_eq_false_iff_not]
      omega
  by_cases h0 : a / 9223372036854775808 % 2 = 0
  · exact key h h0 rfl rfl
  · refine key (iv_neg h) ?_ ?_ (Int.natAbs_neg i)
    · have := neg_div a
      rw [show (a / 9223372036854775808 % 2 == 1) = true from by rw [beq_iff_eq]; omega] at this
      simp only [Bool.not_true, beq_eq_false_iff_ne] at this
      omega
    · rw [neg_mod]
      rfl
theorem gt_iv {x y : Nat} {i j : Int} (hx : IV x i) (hy : IV y j) : (FloatKind.f64.format.order x y == some .gt) = decide (j < i) := by
  rw [show FloatKind.f64.format.order x y = some (compare i j) from iv_order hx hy]
  by_cases h : j < i
  · rw [Int.compare_eq_gt.2 h, decide_eq_true h]
    rfl
  · rw [decide_eq_false h]
    cases hc : compare i j with
    | gt => exact absurd (Int.compare_eq_gt.1 hc) h
    | lt => rfl
    | eq => rfl
theorem lt_iv {x y : Nat} {i j : Int} (hx : IV x i) (hy : IV y j) : (FloatKind.f64.format.order x y == some .lt) = decide (i < j) := by
  rw [show FloatKind.f64.format.order x y = some (compare i j) from iv_order hx hy]
  by_cases h : i < j
  · rw [Int.compare_eq_lt.2 h, decide_eq_true h]
    rfl
  · rw [decide_eq_false h]
    cases hc : compare i j with
    | lt => exact absurd (Int.compare_eq_lt.1 hc) h
    | gt => rfl
    | eq => rfl
theorem eq_iv {x y : Nat} {i j : Int} (hx : IV x i) (hy : IV y j) : (FloatKind.f64.format.order x y == some .eq) = decide (i = j) := by
  rw [show FloatKind.f64.format.order x y = some (compare i j) from iv_order hx hy]
  by_cases h : i = j
  · rw [Int.compare_eq_eq.2 h, decide_eq_true h]
    rfl
  · rw [decide_eq_false h]
    cases hc : compare i j with
    | eq => exact absurd (Int.compare_eq_eq.1 hc) h
    | gt => rfl
    | lt => rfl
theorem iv_zero : IV 0 0 := by
  have h := iv_of_int 0 (by decide)
  have e : floatOfInt .f64 0 = 0 := by kernel_rfl
  rw [e] at h
  exact h
/-- A number's direction; -1 of 0. -/
def zway (z : Int × Int) : Int := if z.1 = 0 ∧ z.2 = 0 then -1 else if 0 < z.1 ∧ (z.2.natAbs : Int) ≤ z.1 then 0 else if 0 < z.2 ∧ (z.1.natAbs : Int) < z.2 then 1 else if z.1 < 0 ∧ (z.2.natAbs : Int) ≤ -z.1 then 2 else 3
set_option maxHeartbeats 4000000 in
theorem Way_is (a b : Nat) (z : Int × Int) (hz : IC (crd (a, b)) z) (w : World) : Calls Try.prog 38 #[.complex .f64 a b] w fun e w' => e = .returned (.int .i64 (zway z)) ∧ w' = w := by
  have ha : IV a z.1 := io_rd hz.1
  have hb : IV b z.2 := io_rd hz.2
  have q1 := eq_iv ha iv_zero
  have q2 := eq_iv hb iv_zero
  have q3 := gt_iv ha iv_zero
  have q4 := gt_iv ha (iv_abs hb)
  have q5 := eq_iv ha (iv_abs hb)
  have q6 := gt_iv hb iv_zero
  have q7 := gt_iv hb (iv_abs ha)
  have q8 := lt_iv ha iv_zero
  have q9 := gt_iv (iv_neg ha) (iv_abs hb)
  have q0 := eq_iv (iv_neg ha) (iv_abs hb)
  clear ha hb hz
  go_enter Try.func38, Try.ntmps38
  go_wp2_with (go_at_call 55; with_reducible refine (Abs_is _ _).mono ?_; rintro e w1 ⟨rfl, rfl⟩)
  all_goals
    clear q1 q2 q3 q4 q5 q6 q7 q8 q9 q0
    go_ret
    refine ⟨?_, rfl⟩
    show Ending.returned (Value.int .i64 _) = Ending.returned (Value.int .i64 (zway z))
    congr 2
    unfold zway
    (try simp only [Bool.and_eq_true, Bool.or_eq_true, decide_eq_true_eq, not_and, not_or, Bool.and_eq_false_iff, Bool.or_eq_false_iff, decide_eq_false_iff_not] at *)
    repeat' split
    all_goals omega
end Go.Proofs.Ytbkamlkmimfomaa
