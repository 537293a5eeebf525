/-
  ChannelMandatory: runs.
  Conditions: none.
-/
import Derived.Test.YtfcebfbdodeecaaGreatDoorEngNa
namespace Go.Eng
open Go Go.Lib Go.RowKit
set_option maxRecDepth 20000
theorem nt_17 (fl : Bool) : endsB p16 Go.Proofs.Tryz.f4 (nR 17 true fl) = true := by kernel_rfl
theorem nf_17_true : endsB p16 Go.Proofs.Tryz.f4 (nR 17 false true) = true := by kernel_rfl
theorem nf_17_false : endsB p16 Go.Proofs.Tryz.f4 (nR 17 false false) = true := by kernel_rfl
theorem nt_18 (fl : Bool) : endsB p16 Go.Proofs.Tryz.f4 (nR 18 true fl) = true := by kernel_rfl
theorem nf_18_true : endsB p16 Go.Proofs.Tryz.f4 (nR 18 false true) = true := by kernel_rfl
theorem nf_18_false : endsB p16 Go.Proofs.Tryz.f4 (nR 18 false false) = true := by kernel_rfl
theorem nt_19 (fl : Bool) : endsB p16 Go.Proofs.Tryz.f4 (nR 19 true fl) = true := by kernel_rfl
theorem nf_19_true : endsB p16 Go.Proofs.Tryz.f4 (nR 19 false true) = true := by kernel_rfl
theorem nf_19_false : endsB p16 Go.Proofs.Tryz.f4 (nR 19 false false) = true := by kernel_rfl
theorem nt_20 (fl : Bool) : endsB p16 Go.Proofs.Tryz.f4 (nR 20 true fl) = true := by kernel_rfl
theorem nf_20_true : endsB p16 Go.Proofs.Tryz.f4 (nR 20 false true) = true := by kernel_rfl
theorem nf_20_false : endsB p16 Go.Proofs.Tryz.f4 (nR 20 false false) = true := by kernel_rfl
theorem nt_21 (fl : Bool) : endsB p16 Go.Proofs.Tryz.f4 (nR 21 true fl) = true := by kernel_rfl
theorem nf_21_true : endsB p16 Go.Proofs.Tryz.f4 (nR 21 false true) = true := by kernel_rfl
theorem nf_21_false : endsB p16 Go.Proofs.Tryz.f4 (nR 21 false false) = true := by kernel_rfl
theorem nt_22 (fl : Bool) : endsB p16 Go.Proofs.Tryz.f4 (nR 22 true fl) = true := by kernel_rfl
theorem nf_22_true : endsB p16 Go.Proofs.Tryz.f4 (nR 22 false true) = true := by kernel_rfl
theorem nf_22_false : endsB p16 Go.Proofs.Tryz.f4 (nR 22 false false) = true := by kernel_rfl
theorem nt_23 (fl : Bool) : endsB p16 Go.Proofs.Tryz.f4 (nR 23 true fl) = true := by kernel_rfl
theorem nf_23_true : endsB p16 Go.Proofs.Tryz.f4 (nR 23 false true) = true := by kernel_rfl
theorem nf_23_false : endsB p16 Go.Proofs.Tryz.f4 (nR 23 false false) = true := by kernel_rfl
theorem nt_24 (fl : Bool) : endsB p16 Go.Proofs.Tryz.f4 (nR 24 true fl) = true := by kernel_rfl
theorem nf_24_true : endsB p16 Go.Proofs.Tryz.f4 (nR 24 false true) = true := by kernel_rfl
theorem nf_24_false : endsB p16 Go.Proofs.Tryz.f4 (nR 24 false false) = true := by kernel_rfl
end Go.Eng
