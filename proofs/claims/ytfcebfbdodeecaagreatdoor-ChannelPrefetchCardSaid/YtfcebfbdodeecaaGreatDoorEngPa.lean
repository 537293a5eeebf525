/-
  ChannelPrefetch: the code in pieces.
  Conditions: none.
-/
import Derived.Test.YtfcebfbdodeecaaGreatDoorEngGb
import Derived.Test.YtfcebfbdodeecaaGreatDoorEngW
namespace Go.Eng
open Go Go.Lib Go.RowKit
set_option linter.unusedVariables false
section
noncomputable def q7 : Code := match Go.Proofs.Tryz.f7.body with | some c => c | none => .skip
theorem q7_eq : Go.Proofs.Tryz.f7.body = some q7 := rfl
noncomputable def q7t (n : Nat) : Code := Nat.rec (motive := fun _ => Code) q7 (fun _ ih => cs ih) n
noncomputable def q7p (n : Nat) : Code := cf (q7t n)
/-- regions 0 1 2; then 3 .. 10; then the loop; then what is behind -/
noncomputable def q7l : Code := q7p 9
noncomputable def q7z : Code := q7t 10
theorem q7_cut : q7 = seqL [q7p 0, q7p 1, q7p 2] (seqL [q7p 3, q7p 4, q7p 5, q7p 6, q7p 7, q7p 8] (q7l.seq q7z)) := by kernel_rfl
noncomputable def p0 (u v : Int) : Fr := initF [.int .i64 u, .int .i64 v] 157
noncomputable def px1 (u v : Int) : ExR := runL p16 K17 1000000 [q7p 0, q7p 1, q7p 2] (p0 u v) ⟨.nil, 0⟩
noncomputable def eM (u : Int) : Int := IntKind.i64.wrap (1 + IntKind.i64.wrap ((IntKind.u64.wrap u).tmod 20))
noncomputable def eK (v : Int) : Int := IntKind.i64.wrap ((IntKind.u64.wrap v).tmod 31)
noncomputable def pO (M : Int) : List AObj := [.cells [.int .i64 1, .slice none 0 0, .slice none 0 0, .slice none 0 0, .slice none 0 0, .pointer (some ⟨1, 0, none⟩), .bool false, .bool false] 53 false,
  .cells [.int .i64 M, .int .u64 0, .slice none 0 0] 66 false]
noncomputable def pA (M K : Int) : Cn := ⟨2, [(5, .pointer (some ⟨0, 0, none⟩)), (6, .int .i64 M), (7, .int .i64 K)], pO 0⟩
noncomputable def px2 (M K : Int) (x : Nat → Value) : ExR := runL p16 K17 1000000 [q7p 3, q7p 4, q7p 5, q7p 6, q7p 7, q7p 8] ((pA M K).fr 157 x) (pA M K).h
end
end Go.Eng
