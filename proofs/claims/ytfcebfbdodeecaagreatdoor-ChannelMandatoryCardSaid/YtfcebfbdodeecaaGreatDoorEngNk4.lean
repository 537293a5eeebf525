/-
  ChannelMandatory: runs.
  Conditions: none.
-/
import Derived.Test.YtfcebfbdodeecaaGreatDoorEngNa
namespace Go.Eng
open Go Go.Lib Go.RowKit
set_option maxRecDepth 20000
theorem nt_33 (fl : Bool) : endsB p16 Go.Proofs.Tryz.f4 (nR 33 true fl) = true := by kernel_rfl
theorem nf_33_true : endsB p16 Go.Proofs.Tryz.f4 (nR 33 false true) = true := by kernel_rfl
theorem nf_33_false : endsB p16 Go.Proofs.Tryz.f4 (nR 33 false false) = true := by kernel_rfl
theorem nt_34 (fl : Bool) : endsB p16 Go.Proofs.Tryz.f4 (nR 34 true fl) = true := by kernel_rfl
theorem nf_34_true : endsB p16 Go.Proofs.Tryz.f4 (nR 34 false true) = true := by kernel_rfl
theorem nf_34_false : endsB p16 Go.Proofs.Tryz.f4 (nR 34 false false) = true := by kernel_rfl
theorem nt_35 (fl : Bool) : endsB p16 Go.Proofs.Tryz.f4 (nR 35 true fl) = true := by kernel_rfl
theorem nf_35_true : endsB p16 Go.Proofs.Tryz.f4 (nR 35 false true) = true := by kernel_rfl
theorem nf_35_false : endsB p16 Go.Proofs.Tryz.f4 (nR 35 false false) = true := by kernel_rfl
theorem nt_36 (fl : Bool) : endsB p16 Go.Proofs.Tryz.f4 (nR 36 true fl) = true := by kernel_rfl
theorem nf_36_true : endsB p16 Go.Proofs.Tryz.f4 (nR 36 false true) = true := by kernel_rfl
theorem nf_36_false : endsB p16 Go.Proofs.Tryz.f4 (nR 36 false false) = true := by kernel_rfl
theorem nt_37 (fl : Bool) : endsB p16 Go.Proofs.Tryz.f4 (nR 37 true fl) = true := by kernel_rfl
theorem nf_37_true : endsB p16 Go.Proofs.Tryz.f4 (nR 37 false true) = true := by kernel_rfl
theorem nf_37_false : endsB p16 Go.Proofs.Tryz.f4 (nR 37 false false) = true := by kernel_rfl
theorem nt_38 (fl : Bool) : endsB p16 Go.Proofs.Tryz.f4 (nR 38 true fl) = true := by kernel_rfl
theorem nf_38_true : endsB p16 Go.Proofs.Tryz.f4 (nR 38 false true) = true := by kernel_rfl
theorem nf_38_false : endsB p16 Go.Proofs.Tryz.f4 (nR 38 false false) = true := by kernel_rfl
theorem nt_39 (fl : Bool) : endsB p16 Go.Proofs.Tryz.f4 (nR 39 true fl) = true := by kernel_rfl
theorem nf_39_true : endsB p16 Go.Proofs.Tryz.f4 (nR 39 false true) = true := by kernel_rfl
theorem nf_39_false : endsB p16 Go.Proofs.Tryz.f4 (nR 39 false false) = true := by kernel_rfl
theorem nt_40 (fl : Bool) : endsB p16 Go.Proofs.Tryz.f4 (nR 40 true fl) = true := by kernel_rfl
theorem nf_40_true : endsB p16 Go.Proofs.Tryz.f4 (nR 40 false true) = true := by kernel_rfl
theorem nf_40_false : endsB p16 Go.Proofs.Tryz.f4 (nR 40 false false) = true := by kernel_rfl
end Go.Eng
