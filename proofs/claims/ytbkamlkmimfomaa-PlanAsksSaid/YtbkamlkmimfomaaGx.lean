/-
  Arithmetic on floats in a walk; a number's quarters.
  Conditions: none; plain theorems over the given model.
-/
import Derived.Laws.Bits128
import Derived.Deep.Draws
import Derived.WalkKit
import Derived.WalkLawsBesides
import Derived.Test.YtbkamlkmimfomaaFl
import Derived.Test.YtbkamlkmimfomaaG
namespace Go.Proofs.YtbkamlkmimfomaaG
open Go

section
variable {P : Program} {a : Act} {w : World} {Q : Exit → Act → World → Prop}
theorem i64_and3 (n : Int) : bits .and .i64 n 3 = n % 4 := by
  have h3 : (BitVec.ofInt 64 3).toNat = 2 ^ 2 - 1 := by decide
  have key : (BitVec.ofInt 64 n &&& BitVec.ofInt 64 3).toNat = (n % ((2 ^ 64 : Nat) : Int)).toNat % 2 ^ 2 := by
    rw [BitVec.toNat_and, BitVec.toNat_ofInt, h3, Nat.and_two_pow_sub_one_eq_mod]
  show IntKind.i64.wrap ((BitVec.ofInt 64 n &&& BitVec.ofInt 64 3).toNat : Nat) = n % 4
  rw [key, IntKind.wrap_i64]
  omega
attribute [go_sem] i64_and3

@[go_sem] theorem run_store_complex (P : Program) (w : World) (d : Addr) (m : Mode) (k : FloatKind) (r i : Nat) : (store d (.complex k r i) m).run P w = stored P w d (.complex k r i) m := run_store P w d _ m rfl

open Go.Proofs.YtbkamlkmimfomaaFl in
/-- Arithmetic on floats, as a call: NaNs alike. -/
theorem float_yields (op : BinOp) (hop : op = .add ∨ op = .sub ∨ op = .mul ∨ op = .quo) (t : TypeId) (x y : Nat) (w : World) :
    YieldsTo P (binOp op t (.float .f64 x) (.float .f64 y)) w fun e w' => ∃ n k, e = .returned (.float .f64 n) ∧ w' = w.drewN k ∧ rd n = lift op (rd x) (rd y) := by
  obtain ⟨n, w', hr, hn, hw⟩ := run_float (P := P) op hop t x y w
  rcases hw with rfl | rfl
  · exact ⟨_, _, hr, n, 0, rfl, rfl, hn⟩
  · exact ⟨_, _, hr, n, 1, rfl, rfl, hn⟩

/-- An operation on two values, as a call. -/
theorem goesB_ {ops : Array Oper} {rest : List Oper} {oi : Oper} (N : Option Tmp) (hd : oi.dst = N) (hg : oi.guard = none) {op : BinOp} {T U : TypeId} {x y : Operand} (u v : Value)
    (hop : oi.op = .binOp op T x y U) (hx : a.eval x = u) (hy : a.eval y = v) (hgd : eqGuard op T x y u v = pure ())
    (h : YieldsTo P (binOp op T u v) w fun e w' => ∃ v, e = .returned v ∧ wpList P ops Q rest (a.put N v) w') : wpList P ops Q (oi :: rest) a w := by
  refine wpList_plain hg fun K hK => ?_
  obtain ⟨v', w', hr, v'', he, hk⟩ := h
  obtain rfl : v' = v'' := by simpa using he
  have hrun : (execOp a.eval oi).run P w = .ok (.value v') w' := by
    unfold execOp
    simp [hop, hx, hy, hr, hgd]
  unfold Oper.wp
  rw [hrun]
  subst hd
  exact hK _ _ hk
end
end Go.Proofs.YtbkamlkmimfomaaG
