/-
  ChannelMandatory: the code, and what is too long.
  Conditions: none.
-/
import Derived.Test.YtfcebfbdodeecaaGreatDoorEngGb
import Derived.Test.YtfcebfbdodeecaaGreatDoorEngW
namespace Go.Eng
open Go Go.Lib Go.RowKit
set_option linter.unusedVariables false
set_option maxRecDepth 20000
section
noncomputable def q4 : Code := match Go.Proofs.Tryz.f4.body with | some c => c | none => .skip
theorem q4_eq : Go.Proofs.Tryz.f4.body = some q4 := rfl
noncomputable def n0 (n : Nat) (th fl : Bool) : Fr := initF [.iface n .nilFunc, .bool th, .bool fl] 100
noncomputable def nR (n : Nat) (th fl : Bool) : ExR := execB p16 K17 1000000 none q4 (n0 n th fl) ⟨.nil, 0⟩
noncomputable def q4a : Code := cf q4
noncomputable def q4b : Code := cf (cf (cs q4))
noncomputable def q4c : Code := cs (cf (cs q4))
noncomputable def q4d : Code := cs (cs q4)
noncomputable def o1n : Array Oper := opsOf q4b
theorem q4_cut : q4 = q4a.seq (((Code.region 1 o1n false).seq q4c).seq q4d) := by kernel_rfl
noncomputable def l1n : List Oper := o1n.toList.take 7
noncomputable def l2n : List Oper := o1n.toList.drop 7
theorem o1n_cut : o1n.toList = l1n ++ (l2n ++ []) := by kernel_rfl
variable (d : Nat) (th fl : Bool)
noncomputable def nx1 : ExR := execB p16 K17 1000000 none q4a (n0 (d + 41) th fl) ⟨.nil, 0⟩
theorem nx1_ok : isN (nx1 d th fl) = true := by kernel_rfl
noncomputable def nx2 : OpsR := opsB p16 K17 o1n.toList l1n (nf (nx1 d th fl)) (nh (nx1 d th fl))
theorem nx2_ok : okO1 (nx2 d th fl) = true := by kernel_rfl
theorem nx2_18 : slot (fO (nx2 d th fl)) 18 = .bool (decide ((40 : Int) < Int.ofNat (d + 41))) := by kernel_rfl
noncomputable def nx3 : OpsR := opsB p16 K17 o1n.toList l2n (putD (fO (nx2 d th fl)) (some 18) (.bool true)) (hO (nx2 d th fl))
theorem nx3_ok : okO1 (nx3 d th fl) = true := by kernel_rfl
theorem nx4_ret : retB p16 Go.Proofs.Tryz.f4 (execB p16 K17 1000000 none q4c (fO (nx3 d th fl)) (hO (nx3 d th fl))) = true := by kernel_rfl
theorem nx0 : endsB p16 Go.Proofs.Tryz.f4 (nR 0 th fl) = true := by kernel_rfl
theorem nt1 (fl : Bool) : endsB p16 Go.Proofs.Tryz.f4 (nR 1 true fl) = true := by kernel_rfl
theorem nt2 : endsB p16 Go.Proofs.Tryz.f4 (nR 1 false true) = true := by kernel_rfl
end
end Go.Eng
