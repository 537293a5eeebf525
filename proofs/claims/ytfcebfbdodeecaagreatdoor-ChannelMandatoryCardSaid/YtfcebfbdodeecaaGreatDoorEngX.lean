/-
  Our machine over the program: what it asks of it.
  Conditions: none.
-/
import Derived.Test.YtfcebfbdodeecaaGreatDoorEngEl
import Derived.Test.YtfcebfbdodeecaaGreatDoorProg
import Derived.KernelRfl
import Derived.Lib.Bytealg
import Derived.Laws.StandIn
namespace Go.Eng
open Go Go.Lib
theorem mixed16 : Go.Proofs.Tryz.prog.follows .mixedOrders = true := by kernel_rfl
theorem names16 : (Go.Proofs.Tryz.prog.funcs.toList.all fun fn => cond fn.body.isSome (!(fn.name == "runtime.NumGoroutine")) true) = true := by kernel_rfl
theorem named16 : ∀ (g : FuncId) (fn : Func), Go.Proofs.Tryz.prog.funcs[g]? = some fn → fn.body.isSome = true → fn.name ≠ "runtime.NumGoroutine" := fun g fn h hb e => by
  have := List.all_eq_true.1 names16 fn (Array.mem_toList_iff.2 (Array.mem_of_getElem? h))
  rw [hb, e] at this
  exact absurd this (by decide)
def X16 (f : Nat) (args : List Value) : Option Value := match f, args with
  | 61, [.string s, .int .u8 c] => some (.int .i64 (indexByte s.data.toList c.toNat.toUInt8))
  | 118, [.string s, .int .u8 c] => some (.int .i64 (countByte s.data.toList c.toNat.toUInt8))
  | _, _ => none
theorem extern16 : XS Go.Proofs.Tryz.prog X16 := fun g fn args v hf hb h => by
  unfold X16 at h
  split at h
  · obtain rfl := Option.some.inj h
    obtain rfl := Option.some.inj (Go.Proofs.Tryz.func61.symm.trans hf)
    refine ⟨rfl, rfl, fun w => ?_⟩
    rw [run_callFunc_indexByte Go.Proofs.Tryz.func61 (by kernel_rfl) (by kernel_rfl) (by kernel_rfl) (by kernel_rfl)]
    show ((Extern.BytealgIndexByte.indexByte #[_, _]).run _ w).andThen _ = _
    rw [run_indexByteString]
    rfl
  · obtain rfl := Option.some.inj h
    obtain rfl := Option.some.inj (Go.Proofs.Tryz.func118.symm.trans hf)
    refine ⟨rfl, rfl, fun w => ?_⟩
    rw [run_callFunc_standIn Go.Proofs.Tryz.func118 (e := Extern.BytealgCount.count) (by kernel_rfl) (by kernel_rfl) (by kernel_rfl) (by kernel_rfl)]
    show ((Extern.BytealgCount.count #[_, _]).run _ w).andThen _ = _
    rw [run_countString]
    rfl
  · cases h
end Go.Eng
