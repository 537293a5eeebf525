/-
  The walks of Float, Same, Whole, Trunc, Copysign, Inf.
  Conditions: none.
-/
import Derived.Test.YtmolpckfemcieaaW1
namespace Go.Proofs.Ytmolpckfemcieaa
open Go.RowKit Go.Proofs.YtmolpckfemcieaaFl Go.Proofs.YtmolpckfemcieaaG

@[go_sem] theorem bits_entry (a : Nat) (w : World) : (callFunc 25 #[.float .f64 a]).run Try.prog w = .ok (.value (.int .u64 a)) w := by
  rw [run_callFunc_extern (fn := Try.f25) (e := Extern.MathFloatBits.float64bits) Try.func25 (by kernel_rfl) (by kernel_rfl) (by kernel_rfl) (by kernel_rfl)]
  rfl
@[go_sem] theorem frombits_entry (a : Int) (w : World) : (callFunc 32 #[.int .u64 a]).run Try.prog w = .ok (.value (.float .f64 a.toNat)) w := by
  rw [run_callFunc_extern (fn := Try.f32) (e := Extern.MathFloatBits.float64frombits) Try.func32 (by kernel_rfl) (by kernel_rfl) (by kernel_rfl) (by kernel_rfl)]
  rfl
theorem trunc_entry (a : Nat) (w : World) (h : (Ieee.double.read a).isNaN = false) : (callFunc 34 #[.float .f64 a]).run Try.prog w = .ok (.value (.float .f64 (Ieee.double.write ((Ieee.double.read a).integral .zero)))) w := by
  rw [run_callFunc_extern (fn := Try.f34) (e := Extern.MathFloor.toIntegral "math.archTrunc" .zero) Try.func34 (by kernel_rfl) (by kernel_rfl) (by kernel_rfl) (by kernel_rfl)]
  show Result.andThen (Sem.run Try.prog (match Ieee.double.read a with | .nan s t => _ | d => pure (Value.float .f64 (FloatKind.f64.encode (d.integral .zero)))) w) _ = _
  cases hr : Ieee.double.read a with
  | nan s t => rw [hr] at h; cases h
  | infinity s => rfl
  | number s m p => rfl

theorem Float_is (a b : Nat) (w : World) : Calls Try.prog 12 #[.float .f64 a, .float .f64 b] w fun e w' => e = .returned (.bool (decide (rd a = rd b))) ∧ w' = w := by
  go_enter Try.func12, Try.ntmps12
  go_wp2
  all_goals go_ret
  all_goals first | (rw [alike_nan ‹_› ‹_›]; exact ⟨rfl, rfl⟩) | (rw [alike_num (.inl ‹_›)]; exact ⟨rfl, rfl⟩) | (rw [alike_num (.inr ‹_›)]; exact ⟨rfl, rfl⟩)
theorem Same_is (a b c d : Nat) (w : World) : Calls Try.prog 20 #[.complex .f64 a b, .complex .f64 c d] w fun e w' => e = .returned (.bool (decide (rd a = rd c) && decide (rd b = rd d))) ∧ w' = w := by
  go_enter Try.func20, Try.ntmps20
  go_wp2_with (go_at_call 12; refine (Float_is _ _ _).mono ?_; rintro e w' ⟨rfl, hw⟩; rw [hw])
  all_goals go_ret
  all_goals simp_all
theorem Trunc_is (a : Nat) (w : World) (h : (Ieee.double.read a).isNaN = false) : Calls Try.prog 31 #[.float .f64 a] w fun e w' => e = .returned (.float .f64 (Ieee.double.write ((Ieee.double.read a).integral .zero))) ∧ w' = w := by
  have ht := fun w => trunc_entry a w h
  clear h
  go_enter Try.func31, Try.ntmps31
  go_wp2
  go_ret
  exact ⟨rfl, rfl⟩
theorem Inf_is (s : Int) (w : World) : Calls Try.prog 24 #[.int .i64 s] w fun e w' => e = .returned (.float .f64 (if s ≥ 0 then 9218868437227405312 else 18442240474082181120)) ∧ w' = w := by
  go_enter Try.func24, Try.ntmps24
  go_wp2
  all_goals go_ret
  all_goals exact ⟨rfl, rfl⟩
theorem Copysign_is (w : World) : Calls Try.prog 23 #[.float .f64 0, .float .f64 13830554455654793216] w fun e w' => e = .returned (.float .f64 9223372036854775808) ∧ w' = w := by
  have h1 : bits BinOp.or IntKind.u64 (bits BinOp.andNot IntKind.u64 0 9223372036854775808) (bits BinOp.and IntKind.u64 13830554455654793216 9223372036854775808) = 9223372036854775808 := by decide +kernel
  go_enter Try.func23, Try.ntmps23
  go_wp2
  go_ret
  exact ⟨rfl, rfl⟩
/-- A float is a whole number from -2^40 to 2^40. -/
def whole (a : Nat) : Bool := (FloatKind.f64.format.order a 14010698440749613056 == some .gt || FloatKind.f64.format.order a 14010698440749613056 == some .eq) && (FloatKind.f64.format.order a 4787326403894837248 == some .lt || FloatKind.f64.format.order a 4787326403894837248 == some .eq) && FloatKind.f64.format.order a (Ieee.double.write ((Ieee.double.read a).integral .zero)) == some .eq
theorem is_is (a : Nat) (w : World) (h : (Ieee.double.read a).isNaN = false) : Calls Try.prog 30 #[.float .f64 a] w fun e w' => e = .returned (.bool (whole a)) ∧ w' = w := by
  unfold whole
  go_enter Try.func30, Try.ntmps30
  go_wp2_with (go_at_call 31; refine (Trunc_is _ _ h).mono ?_; rintro e w' ⟨rfl, hw⟩; rw [hw])
  all_goals go_ret
  all_goals simp_all
theorem Whole_is (a b : Nat) (w : World) (h : (Ieee.double.read a).isNaN = false) (h' : (Ieee.double.read b).isNaN = false) : Calls Try.prog 22 #[.complex .f64 a b] w fun e w' => e = .returned (.bool (whole a && whole b)) ∧ w' = w := by
  go_enter Try.func22, Try.ntmps22
  go_wp2_with (first | (go_at_call 30; refine (is_is _ _ (by assumption)).mono ?_; rintro e w' ⟨rfl, hw⟩; rw [hw]))
  all_goals go_ret
  all_goals simp_all
end Go.Proofs.Ytmolpckfemcieaa
