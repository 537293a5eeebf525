/-
  ChannelMandatory: runs.
  Conditions: none.
-/
import Derived.Test.YtfcebfbdodeecaaGreatDoorEngNa
namespace Go.Eng
open Go Go.Lib Go.RowKit
set_option maxRecDepth 20000
theorem nt_25 (fl : Bool) : endsB p16 Go.Proofs.Tryz.f4 (nR 25 true fl) = true := by kernel_rfl
theorem nf_25_true : endsB p16 Go.Proofs.Tryz.f4 (nR 25 false true) = true := by kernel_rfl
theorem nf_25_false : endsB p16 Go.Proofs.Tryz.f4 (nR 25 false false) = true := by kernel_rfl
theorem nt_26 (fl : Bool) : endsB p16 Go.Proofs.Tryz.f4 (nR 26 true fl) = true := by kernel_rfl
theorem nf_26_true : endsB p16 Go.Proofs.Tryz.f4 (nR 26 false true) = true := by kernel_rfl
theorem nf_26_false : endsB p16 Go.Proofs.Tryz.f4 (nR 26 false false) = true := by kernel_rfl
theorem nt_27 (fl : Bool) : endsB p16 Go.Proofs.Tryz.f4 (nR 27 true fl) = true := by kernel_rfl
theorem nf_27_true : endsB p16 Go.Proofs.Tryz.f4 (nR 27 false true) = true := by kernel_rfl
theorem nf_27_false : endsB p16 Go.Proofs.Tryz.f4 (nR 27 false false) = true := by kernel_rfl
theorem nt_28 (fl : Bool) : endsB p16 Go.Proofs.Tryz.f4 (nR 28 true fl) = true := by kernel_rfl
theorem nf_28_true : endsB p16 Go.Proofs.Tryz.f4 (nR 28 false true) = true := by kernel_rfl
theorem nf_28_false : endsB p16 Go.Proofs.Tryz.f4 (nR 28 false false) = true := by kernel_rfl
theorem nt_29 (fl : Bool) : endsB p16 Go.Proofs.Tryz.f4 (nR 29 true fl) = true := by kernel_rfl
theorem nf_29_true : endsB p16 Go.Proofs.Tryz.f4 (nR 29 false true) = true := by kernel_rfl
theorem nf_29_false : endsB p16 Go.Proofs.Tryz.f4 (nR 29 false false) = true := by kernel_rfl
theorem nt_30 (fl : Bool) : endsB p16 Go.Proofs.Tryz.f4 (nR 30 true fl) = true := by kernel_rfl
theorem nf_30_true : endsB p16 Go.Proofs.Tryz.f4 (nR 30 false true) = true := by kernel_rfl
theorem nf_30_false : endsB p16 Go.Proofs.Tryz.f4 (nR 30 false false) = true := by kernel_rfl
theorem nt_31 (fl : Bool) : endsB p16 Go.Proofs.Tryz.f4 (nR 31 true fl) = true := by kernel_rfl
theorem nf_31_true : endsB p16 Go.Proofs.Tryz.f4 (nR 31 false true) = true := by kernel_rfl
theorem nf_31_false : endsB p16 Go.Proofs.Tryz.f4 (nR 31 false false) = true := by kernel_rfl
theorem nt_32 (fl : Bool) : endsB p16 Go.Proofs.Tryz.f4 (nR 32 true fl) = true := by kernel_rfl
theorem nf_32_true : endsB p16 Go.Proofs.Tryz.f4 (nR 32 false true) = true := by kernel_rfl
theorem nf_32_false : endsB p16 Go.Proofs.Tryz.f4 (nR 32 false false) = true := by kernel_rfl
end Go.Eng
