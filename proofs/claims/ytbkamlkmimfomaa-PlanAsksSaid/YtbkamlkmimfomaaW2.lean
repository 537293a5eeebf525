/-
  The walks of Float, Same, Whole, Trunc, Copysign, Inf.
  Conditions: none.
-/
import Derived.Test.YtbkamlkmimfomaaW1
namespace Go.Proofs.Ytbkamlkmimfomaa
open Go.RowKit Go.Proofs.YtbkamlkmimfomaaFl Go.Proofs.YtbkamlkmimfomaaG

@[go_sem] theorem bits_entry (a : Nat) (w : World) : (callFunc 52 #[.float .f64 a]).run Try.prog w = .ok (.value (.int .u64 a)) w := by
  rw [run_callFunc_extern (fn := Try.f52) (e := Extern.MathFloatBits.float64bits) Try.func52 (by kernel_rfl) (by kernel_rfl) (by kernel_rfl) (by kernel_rfl)]
  rfl
@[go_sem] theorem frombits_entry (a : Int) (w : World) : (callFunc 63 #[.int .u64 a]).run Try.prog w = .ok (.value (.float .f64 a.toNat)) w := by
  rw [run_callFunc_extern (fn := Try.f63) (e := Extern.MathFloatBits.float64frombits) Try.func63 (by kernel_rfl) (by kernel_rfl) (by kernel_rfl) (by kernel_rfl)]
  rfl
theorem trunc_entry (a : Nat) (w : World) (h : (Ieee.double.read a).isNaN = false) : (callFunc 60 #[.float .f64 a]).run Try.prog w = .ok (.value (.float .f64 (Ieee.double.write ((Ieee.double.read a).integral .zero)))) w := by
  rw [run_callFunc_extern (fn := Try.f60) (e := Extern.MathFloor.toIntegral "math.archTrunc" .zero) Try.func60 (by kernel_rfl) (by kernel_rfl) (by kernel_rfl) (by kernel_rfl)]
  show Result.andThen (Sem.run Try.prog (match Ieee.double.read a with | .nan s t => _ | d => pure (Value.float .f64 (FloatKind.f64.encode (d.integral .zero)))) w) _ = _
  cases hr : Ieee.double.read a with
  | nan s t => rw [hr] at h; cases h
  | infinity s => rfl
  | number s m p => rfl

theorem Float_is (a b : Nat) (w : World) : Calls Try.prog 29 #[.float .f64 a, .float .f64 b] w fun e w' => e = .returned (.bool (decide (rd a = rd b))) ∧ w' = w := by
  go_enter Try.func29, Try.ntmps29
  go_wp2
  all_goals go_ret
  all_goals first | (rw [alike_nan ‹_› ‹_›]; exact ⟨rfl, rfl⟩) | (rw [alike_num (.inl ‹_›)]; exact ⟨rfl, rfl⟩) | (rw [alike_num (.inr ‹_›)]; exact ⟨rfl, rfl⟩)
theorem Same_is (a b c d : Nat) (w : World) : Calls Try.prog 10 #[.complex .f64 a b, .complex .f64 c d] w fun e w' => e = .returned (.bool (decide (rd a = rd c) && decide (rd b = rd d))) ∧ w' = w := by
  go_enter Try.func10, Try.ntmps10
  go_wp2_with (go_at_call 29; refine (Float_is _ _ _).mono ?_; rintro e w' ⟨rfl, hw⟩; rw [hw])
  all_goals go_ret
  all_goals simp_all
theorem Trunc_is (a : Nat) (w : World) (h : (Ieee.double.read a).isNaN = false) : Calls Try.prog 49 #[.float .f64 a] w fun e w' => e = .returned (.float .f64 (Ieee.double.write ((Ieee.double.read a).integral .zero))) ∧ w' = w := by
  have ht := fun w => trunc_entry a w h
  clear h
  go_enter Try.func49, Try.ntmps49
  go_wp2
  go_ret
  exact ⟨rfl, rfl⟩
/-- A float is a whole number from -2^40 to 2^40. -/
def whole (a : Nat) : Bool := (FloatKind.f64.format.order a 14010698440749613056 == some .gt || FloatKind.f64.format.order a 14010698440749613056 == some .eq) && (FloatKind.f64.format.order a 4787326403894837248 == some .lt || FloatKind.f64.format.order a 4787326403894837248 == some .eq) && FloatKind.f64.format.order a (Ieee.double.write ((Ieee.double.read a).integral .zero)) == some .eq
theorem is_is (a : Nat) (w : World) (h : (Ieee.double.read a).isNaN = false) : Calls Try.prog 48 #[.float .f64 a] w fun e w' => e = .returned (.bool (whole a)) ∧ w' = w := by
  unfold whole
  go_enter Try.func48, Try.ntmps48
  go_wp2_with (go_at_call 49; refine (Trunc_is _ _ h).mono ?_; rintro e w' ⟨rfl, hw⟩; rw [hw])
  all_goals go_ret
  all_goals simp_all
theorem Whole_is (a b : Nat) (w : World) (h : (Ieee.double.read a).isNaN = false) (h' : (Ieee.double.read b).isNaN = false) : Calls Try.prog 19 #[.complex .f64 a b] w fun e w' => e = .returned (.bool (whole a && whole b)) ∧ w' = w := by
  go_enter Try.func19, Try.ntmps19
  go_wp2_with (first | (go_at_call 48; refine (is_is _ _ (by assumption)).mono ?_; rintro e w' ⟨rfl, hw⟩; rw [hw]))
  all_goals go_ret
  all_goals simp_all
end Go.Proofs.Ytbkamlkmimfomaa
