/-
  ChannelModes: the short states, and the runs between them.
  Conditions: none.
-/
import Derived.Test.YtfcebfbdodeecaaGreatDoorEngMa
import Derived.Test.YtfcebfbdodeecaaGreatDoorEngGb
namespace Go.Eng
open Go Go.Lib Go.RowKit
set_option linter.unusedVariables false
section
noncomputable def mO (cf tx : Bool) : List AObj := [.cells [.int .i64 1, .slice none 0 0, .slice none 0 0, .slice none 0 0, .slice none 0 0, .pointer (some ⟨1, 0, none⟩), .bool cf, .bool tx] 53 false,
  .cells [.int .i64 0, .int .u64 0, .slice none 0 0] 66 false]
noncomputable def mC (i : Int) (cf tx : Bool) (l c : Nat) : Cn := ⟨2, [(0, .slice (some ⟨1048576, 0, none⟩) l c), (3, .pointer (some ⟨0, 0, none⟩)), (6, .bool cf), (7, .bool tx), (8, .int .i64 i)], mO cf tx⟩
noncomputable def mD (i : Int) (cf tx : Bool) (k : Int) (l c : Nat) : Cn := ⟨2, [(0, .slice (some ⟨1048576, 0, none⟩) l c), (3, .pointer (some ⟨0, 0, none⟩)), (6, .bool cf), (7, .bool tx), (8, .int .i64 i), (9, .int .i64 k)], mO cf tx⟩
noncomputable def mT (i : Int) (cf tx : Bool) (k : Int) (l c : Nat) (x : Nat → Value) : ExR := execB p16 K17 1000000 none q3o ((mD i cf tx k l c).fr 111 x) (mD i cf tx k l c).h
noncomputable def mP (i : Int) (cf tx b : Bool) (l c : Nat) : Cn := ⟨2, [(0, .slice (some ⟨1048576, 0, none⟩) l c), (3, .pointer (some ⟨0, 0, none⟩)), (6, .bool cf), (7, .bool tx), (8, .int .i64 i), (31, .bool b)], mO cf tx⟩
theorem m_start (l c : Nat) : viewN [0, 3, 6, 7, 8] [0, 6] (mx6 l c) = some ((mC 0 false false l c).view 111 [0, 6]) := by kernel_rfl
theorem mC_ok (i : Int) (cf tx : Bool) (l c p q : Nat) (h : (!(List.contains [q] p)) = true) : (mC i cf tx l c).okB [p, q] = true := by
  show (_ && onceB [p, q]) = true
  rw [show onceB [p, q] = (!(List.contains [q] p) && (!(List.contains [] q) && true)) from rfl, h]
  rfl
theorem mD_ok (i : Int) (cf tx : Bool) (k : Int) (l c : Nat) : (mD i cf tx k l c).okB [0, 1] = true := by kernel_rfl
theorem mP_ok (i : Int) (cf tx b : Bool) (l c : Nat) : (mP i cf tx b l c).okB [0, 1] = true := by kernel_rfl
theorem mt000 (i : Int) (l c : Nat) (x : Nat → Value) : viewN [0, 3, 6, 7, 8] [0, 1] (mT i false false 0 l c x) = some ((mC i true false l c).view 111 [0, 1]) := by kernel_rfl
theorem mt001 (i : Int) (l c : Nat) (x : Nat → Value) : viewN [0, 3, 6, 7, 8] [0, 1] (mT i false false 1 l c x) = some ((mC i false true l c).view 111 [0, 1]) := by kernel_rfl
theorem mt002 (i : Int) (l c : Nat) (x : Nat → Value) : retB p16 Go.Proofs.Tryz.f3 (mT i false false 2 l c x) = true := by kernel_rfl
theorem mt003 (i : Int) (l c : Nat) (x : Nat → Value) : retB p16 Go.Proofs.Tryz.f3 (mT i false false 3 l c x) = true := by kernel_rfl
theorem mt100 (i : Int) (l c : Nat) (x : Nat → Value) : viewN [0, 3, 6, 7, 8] [0, 1] (mT i true false 0 l c x) = some ((mC i true false l c).view 111 [0, 1]) := by kernel_rfl
theorem mt101 (i : Int) (l c : Nat) (x : Nat → Value) : retB p16 Go.Proofs.Tryz.f3 (mT i true false 1 l c x) = true := by kernel_rfl
theorem mt102 (i : Int) (l c : Nat) (x : Nat → Value) : retB p16 Go.Proofs.Tryz.f3 (mT i true false 2 l c x) = true := by kernel_rfl
theorem mt103 (i : Int) (l c : Nat) (x : Nat → Value) : retB p16 Go.Proofs.Tryz.f3 (mT i true false 3 l c x) = true := by kernel_rfl
theorem mt010 (i : Int) (l c : Nat) (x : Nat → Value) : retB p16 Go.Proofs.Tryz.f3 (mT i false true 0 l c x) = true := by kernel_rfl
theorem mt011 (i : Int) (l c : Nat) (x : Nat → Value) : viewN [0, 3, 6, 7, 8] [0, 1] (mT i false true 1 l c x) = some ((mC i false true l c).view 111 [0, 1]) := by kernel_rfl
theorem mt012 (i : Int) (l c : Nat) (x : Nat → Value) : viewN [0, 3, 6, 7, 8] [0, 1] (mT i false true 2 l c x) = some ((mC i false true l c).view 111 [0, 1]) := by kernel_rfl
theorem mt013 (i : Int) (l c : Nat) (x : Nat → Value) : viewN [0, 3, 6, 7, 8] [0, 1] (mT i false true 3 l c x) = some ((mC i false true l c).view 111 [0, 1]) := by kernel_rfl
end
end Go.Eng
