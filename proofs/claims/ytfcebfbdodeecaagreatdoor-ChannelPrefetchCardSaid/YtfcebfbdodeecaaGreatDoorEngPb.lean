/-
  ChannelPrefetch: the short states.
  Conditions: none.
-/
import Derived.Test.YtfcebfbdodeecaaGreatDoorEngPa
namespace Go.Eng
open Go Go.Lib Go.RowKit
set_option linter.unusedVariables false
section
noncomputable def tagsL (t : Nat) : List Value := Nat.rec (motive := fun _ => List Value) [] (fun n ih => ih ++ [.int .u64 (Int.ofNat (n + 1))]) t
noncomputable def openV (t : Nat) : Value := Nat.rec (motive := fun _ => Value) (.slice none 0 0) (fun n _ => .slice (some ⟨4, 0, none⟩) (n + 1) (n + 1)) t
noncomputable def openO (t : Nat) : List AObj := Nat.rec (motive := fun _ => List AObj) [] (fun n _ => [.cells (tagsL (n + 1)) 28 true]) t
noncomputable def pQ (M : Int) (t : Nat) : List AObj := [.cells [.int .i64 1, .slice none 0 0, .slice none 0 0, .slice (some ⟨1, 0, none⟩) 1 1, .slice (some ⟨2, 0, none⟩) 1 1, .pointer (some ⟨3, 0, none⟩), .bool false, .bool false] 53 false,
  .cells [.string ⟨#[113]⟩] 9 true, .cells [.string ⟨#[116]⟩] 9 true, .cells [.int .i64 M, .int .u64 (Int.ofNat t), openV t] 66 false] ++ openO t
noncomputable def pB (i M K : Int) (t : Nat) : Cn := ⟨10, [(5, .pointer (some ⟨0, 0, none⟩)), (6, .int .i64 M), (7, .int .i64 K), (14, .int .i64 i)], pQ M t⟩
noncomputable def q7i : Code := cf q7l
noncomputable def q7b : Code := match cs q7l with | .block _ (.loop b) => b | _ => .skip
theorem q7l_cut : q7l = q7i.seq (.block 0 (.loop q7b)) := by kernel_rfl
noncomputable def q7h : Code := cf (cf q7b)
noncomputable def q7w : Code := match cf (cs q7b) with | .block _ b => b | _ => .skip
noncomputable def q7n : Code := cs (cs q7b)
theorem q7b_cut : q7b = (q7h.seq (.cond (.tmp 69) .skip (.exit 0))).seq ((Code.block 1 q7w).seq q7n) := by kernel_rfl
noncomputable def o14 : Array Oper := opsOf (cf q7w)
noncomputable def o15 : Array Oper := opsOf (cf (cs q7w))
noncomputable def q7e : Code := cs (cs q7w)
theorem q7w_cut : q7w = (Code.region 14 o14 false).seq ((Code.region 15 o15 false).seq q7e) := by kernel_rfl
noncomputable def l14a : List Oper := o14.toList.take 3
noncomputable def l14b : List Oper := o14.toList.drop 3
theorem o14_cut : o14.toList = l14a ++ (l14b ++ []) := by kernel_rfl
noncomputable def l15a : List Oper := o15.toList.take 5
noncomputable def l15b : List Oper := o15.toList.drop 5
theorem o15_cut : o15.toList = l15a ++ (l15b ++ []) := by kernel_rfl
noncomputable def b1 (i M K : Int) (t : Nat) (x : Nat → Value) : OpsR := opsB p16 K17 o14.toList l14a ((pB i M K t).fr 157 x) (pB i M K t).h
noncomputable def b2 (i M K : Int) (t : Nat) (x : Nat → Value) : OpsR := opsB p16 K17 o14.toList l14b (putD (fO (b1 i M K t x)) (some 75) (.int .u64 i)) (hO (b1 i M K t x))
noncomputable def asN (x : OpsR) : ExR := match x with | .ok a H => .normal a H | .bad l => .bad l
end
end Go.Eng
