/-
  ChannelPrefetch: more short states, and the runs that hold for any numbers.
  Conditions: none.
-/
import Derived.Test.YtfcebfbdodeecaaGreatDoorEngPb
namespace Go.Eng
open Go Go.Lib Go.RowKit
set_option linter.unusedVariables false
set_option maxRecDepth 20000
section
noncomputable def okM (g : Int) : List Value := [.int .i64 6060, .string ⟨#[]⟩, .string ⟨#[]⟩, .string ⟨#[]⟩, .string ⟨#[]⟩, .string ⟨#[116]⟩, .int .i64 0, .int .i64 0, .int .u64 g, .bool false, .bool false, .slice none 0 0]
noncomputable def noM : List Value := [.int .i64 0, .string ⟨#[]⟩, .string ⟨#[]⟩, .string ⟨#[]⟩, .string ⟨#[]⟩, .string ⟨#[]⟩, .int .i64 0, .int .i64 0, .int .u64 0, .bool false, .bool false, .slice none 0 0]
noncomputable def pE (i M K : Int) (t : Nat) (e : Int) (g : List Value) : Cn := ⟨20, [(5, .pointer (some ⟨0, 0, none⟩)), (6, .int .i64 M), (7, .int .i64 K), (14, .int .i64 i), (15, .pointer (some ⟨5, 0, none⟩)), (16, .int .i64 e)], pQ M t ++ [.cells g 31 false]⟩
noncomputable def b3 (i M K : Int) (t : Nat) (e : Int) (g : List Value) (x : Nat → Value) : OpsR := opsB p16 K17 o15.toList l15a ((pE i M K t e g).fr 157 x) (pE i M K t e g).h
noncomputable def b4 (i M K : Int) (t : Nat) (e : Int) (g : List Value) (x : Nat → Value) (b : Bool) : OpsR := opsB p16 K17 o15.toList l15b (putD (fO (b3 i M K t e g x)) (some 84) (.bool b)) (hO (b3 i M K t e g x))
noncomputable def b5 (i M K : Int) (t : Nat) (e : Int) (g : List Value) (x : Nat → Value) (b : Bool) : ExR := exThen (execB p16 K17 1000000 none q7e) (asN (b4 i M K t e g x b))
variable (i M K : Int) (t : Nat) (e : Int) (g : List Value) (x : Nat → Value)
theorem b1_ok : okO1 (b1 i M K t x) = true := by kernel_rfl
theorem b1_75 : slot (fO (b1 i M K t x)) 75 = .int .u64 (IntKind.u64.wrap i) := by kernel_rfl
theorem b3_ok : okO1 (b3 i M K t e g x) = true := by kernel_rfl
theorem b3_84 : slot (fO (b3 i M K t e g x)) 84 = .bool (decide (i ≤ M)) := by kernel_rfl
noncomputable def o12 : Array Oper := opsOf q7h
theorem q7h_eq : q7h = .region 12 o12 false := by kernel_rfl
theorem o12_cut : o12.toList = o12.toList ++ [] := by kernel_rfl
noncomputable def h12 : OpsR := opsB p16 K17 o12.toList o12.toList ((pB i M K t).fr 157 x) (pB i M K t).h
theorem h12_ok : okO1 (h12 i M K t x) = true := by kernel_rfl
theorem h12_69 : slot (fO (h12 i M K t x)) 69 = .bool (decide (i ≤ K)) := by kernel_rfl
theorem h12_h : hO (h12 i M K t x) = (pB i M K t).h := by kernel_rfl
theorem h12_live : ((fO (h12 i M K t x)).m, (pB i M K t).live.map fun e => slotB (fO (h12 i M K t x)) e.1) = (157, (pB i M K t).live.map Prod.snd) := by kernel_rfl
noncomputable def o13 : Array Oper := opsOf q7n
theorem q7n_eq : q7n = .region 13 o13 false := by kernel_rfl
theorem o13_cut : o13.toList = o13.toList ++ [] := by kernel_rfl
noncomputable def h13 : OpsR := opsB p16 K17 o13.toList o13.toList ((pB i M K t).fr 157 x) (pB i M K t).h
theorem h13_ok : okO1 (h13 i M K t x) = true := by kernel_rfl
theorem h13_h : hO (h13 i M K t x) = (pB (IntKind.i64.wrap (i + 1)) M K t).h := by kernel_rfl
theorem h13_live : ((fO (h13 i M K t x)).m, (pB (IntKind.i64.wrap (i + 1)) M K t).live.map fun e => slotB (fO (h13 i M K t x)) e.1) = (157, (pB (IntKind.i64.wrap (i + 1)) M K t).live.map Prod.snd) := by kernel_rfl
/-! behind the loop -/
noncomputable def o17 : Array Oper := opsOf (cf (cf q7z))
noncomputable def q7y : Code := cs (cs q7z)
noncomputable def q7g : Code := cs (cf q7z)
noncomputable def o19 : Array Oper := opsOf (cf (cs q7z))
noncomputable def q7x : Code := match q7g with | .cond _ x _ => x | _ => .skip
theorem q7z_cut : q7z = ((Code.region 17 o17 false).seq (.cond (.tmp 106) q7x .skip)).seq ((Code.region 19 o19 false).seq q7y) := by kernel_rfl
theorem o17_cut : o17.toList = o17.toList ++ [] := by kernel_rfl
noncomputable def h17 : OpsR := opsB p16 K17 o17.toList o17.toList ((pB i M K t).fr 157 x) (pB i M K t).h
theorem h17_ok : okO1 (h17 i M K t x) = true := by kernel_rfl
theorem h17_106 : slot (fO (h17 i M K t x)) 106 = .bool (decide (K = 0)) := by kernel_rfl
theorem h17_h : hO (h17 i M K t x) = (pB i M K t).h := by kernel_rfl
theorem h17_live : ((fO (h17 i M K t x)).m, (pB i M K t).live.map fun e => slotB (fO (h17 i M K t x)) e.1) = (157, (pB i M K t).live.map Prod.snd) := by kernel_rfl
noncomputable def l19a : List Oper := o19.toList.take 3
noncomputable def o116 : Oper := (o19.toList.drop 3).headD default
noncomputable def l19b : List Oper := o19.toList.drop 4
theorem o19_cut : o19.toList = l19a ++ (o116 :: (l19b ++ [])) := by kernel_rfl
noncomputable def pZ (M K : Int) (t : Nat) : Cn := ⟨10, [(5, .pointer (some ⟨0, 0, none⟩)), (6, .int .i64 M), (7, .int .i64 K), (113, .pointer (some ⟨0, 0, none⟩)), (116, .int .i64 (Int.ofNat t))], pQ M t⟩
noncomputable def h19 : OpsR := opsB p16 K17 o19.toList l19a ((pB i M K t).fr 157 x) (pB i M K t).h
theorem h19_ok : okO1 (h19 i M K t x) = true := by kernel_rfl
theorem h19_114 : slot (fO (h19 i M K t x)) 114 = .int .i64 K := by kernel_rfl
theorem h19_115 : slot (fO (h19 i M K t x)) 115 = .int .i64 M := by kernel_rfl
theorem h19_h : hO (h19 i M K t x) = (pZ M K t).h := by kernel_rfl
noncomputable def a116 : Fr := putD (fO (h19 i M K t x)) o116.dst (.int .i64 (Int.ofNat t))
theorem a116_live : ((a116 i M K t x).m, (pZ M K t).live.map fun e => slotB (a116 i M K t x) e.1) = (157, (pZ M K t).live.map Prod.snd) := by kernel_rfl
noncomputable def zR : ExR := exThen (execB p16 K17 1000000 none q7y) (asN (opsB p16 K17 o19.toList l19b ((pZ M K t).fr 157 x) (pZ M K t).h))
theorem zero_run : endsB p16 Go.Proofs.Tryz.f7 (execB p16 K17 1000000 none q7x ((pB i M K 0).fr 157 x) (pB i M K 0).h) = true := by kernel_rfl
noncomputable def pS (M K : Int) : Cn := ⟨10, [(5, .pointer (some ⟨0, 0, none⟩)), (6, .int .i64 M), (7, .int .i64 K)], pQ M 0⟩
theorem pi_run : viewN [5, 6, 7, 14] [0, 1, 2, 3] (execB p16 K17 1000000 none q7i ((pS M K).fr 157 x) (pS M K).h) = some ((pB 1 M K 0).view 157 [0, 1, 2, 3]) := by kernel_rfl
theorem pB0_ok : (pB i M K 0).okB [0, 1, 2, 3] = true := by kernel_rfl
theorem pS_ok : (pS M K).okB [0, 9, 28, 1] = true := by kernel_rfl
theorem pA_ok : (pA M K).okB [0, 6] = true := by kernel_rfl
theorem p1_run (u v : Int) : viewN [5, 6, 7] [0, 6] (px1 u v) = some ((pA (eM u) (eK v)).view 157 [0, 6]) := by kernel_rfl
end
end Go.Eng
