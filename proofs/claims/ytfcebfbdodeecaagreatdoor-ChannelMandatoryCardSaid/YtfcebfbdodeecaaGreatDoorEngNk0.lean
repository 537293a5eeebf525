/-
  ChannelMandatory: runs.
  Conditions: none.
-/
import Derived.Test.YtfcebfbdodeecaaGreatDoorEngNa
namespace Go.Eng
open Go Go.Lib Go.RowKit
set_option maxRecDepth 20000
theorem nt_1 (fl : Bool) : endsB p16 Go.Proofs.Tryz.f4 (nR 1 true fl) = true := by kernel_rfl
theorem nf_1_true : endsB p16 Go.Proofs.Tryz.f4 (nR 1 false true) = true := by kernel_rfl
theorem nf_1_false : endsB p16 Go.Proofs.Tryz.f4 (nR 1 false false) = true := by kernel_rfl
theorem nt_2 (fl : Bool) : endsB p16 Go.Proofs.Tryz.f4 (nR 2 true fl) = true := by kernel_rfl
theorem nf_2_true : endsB p16 Go.Proofs.Tryz.f4 (nR 2 false true) = true := by kernel_rfl
theorem nf_2_false : endsB p16 Go.Proofs.Tryz.f4 (nR 2 false false) = true := by kernel_rfl
theorem nt_3 (fl : Bool) : endsB p16 Go.Proofs.Tryz.f4 (nR 3 true fl) = true := by kernel_rfl
theorem nf_3_true : endsB p16 Go.Proofs.Tryz.f4 (nR 3 false true) = true := by kernel_rfl
theorem nf_3_false : endsB p16 Go.Proofs.Tryz.f4 (nR 3 false false) = true := by kernel_rfl
theorem nt_4 (fl : Bool) : endsB p16 Go.Proofs.Tryz.f4 (nR 4 true fl) = true := by kernel_rfl
theorem nf_4_true : endsB p16 Go.Proofs.Tryz.f4 (nR 4 false true) = true := by kernel_rfl
theorem nf_4_false : endsB p16 Go.Proofs.Tryz.f4 (nR 4 false false) = true := by kernel_rfl
theorem nt_5 (fl : Bool) : endsB p16 Go.Proofs.Tryz.f4 (nR 5 true fl) = true := by kernel_rfl
theorem nf_5_true : endsB p16 Go.Proofs.Tryz.f4 (nR 5 false true) = true := by kernel_rfl
theorem nf_5_false : endsB p16 Go.Proofs.Tryz.f4 (nR 5 false false) = true := by kernel_rfl
theorem nt_6 (fl : Bool) : endsB p16 Go.Proofs.Tryz.f4 (nR 6 true fl) = true := by kernel_rfl
theorem nf_6_true : endsB p16 Go.Proofs.Tryz.f4 (nR 6 false true) = true := by kernel_rfl
theorem nf_6_false : endsB p16 Go.Proofs.Tryz.f4 (nR 6 false false) = true := by kernel_rfl
theorem nt_7 (fl : Bool) : endsB p16 Go.Proofs.Tryz.f4 (nR 7 true fl) = true := by kernel_rfl
theorem nf_7_true : endsB p16 Go.Proofs.Tryz.f4 (nR 7 false true) = true := by kernel_rfl
theorem nf_7_false : endsB p16 Go.Proofs.Tryz.f4 (nR 7 false false) = true := by kernel_rfl
theorem nt_8 (fl : Bool) : endsB p16 Go.Proofs.Tryz.f4 (nR 8 true fl) = true := by kernel_rfl
theorem nf_8_true : endsB p16 Go.Proofs.Tryz.f4 (nR 8 false true) = true := by kernel_rfl
theorem nf_8_false : endsB p16 Go.Proofs.Tryz.f4 (nR 8 false false) = true := by kernel_rfl
end Go.Eng
