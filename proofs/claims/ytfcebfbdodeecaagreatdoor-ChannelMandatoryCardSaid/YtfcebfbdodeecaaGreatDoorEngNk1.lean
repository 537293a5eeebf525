/-
  ChannelMandatory: runs.
  Conditions: none.
-/
import Derived.Test.YtfcebfbdodeecaaGreatDoorEngNa
namespace Go.Eng
open Go Go.Lib Go.RowKit
set_option maxRecDepth 20000
theorem nt_9 (fl : Bool) : endsB p16 Go.Proofs.Tryz.f4 (nR 9 true fl) = true := by kernel_rfl
theorem nf_9_true : endsB p16 Go.Proofs.Tryz.f4 (nR 9 false true) = true := by kernel_rfl
theorem nf_9_false : endsB p16 Go.Proofs.Tryz.f4 (nR 9 false false) = true := by kernel_rfl
theorem nt_10 (fl : Bool) : endsB p16 Go.Proofs.Tryz.f4 (nR 10 true fl) = true := by kernel_rfl
theorem nf_10_true : endsB p16 Go.Proofs.Tryz.f4 (nR 10 false true) = true := by kernel_rfl
theorem nf_10_false : endsB p16 Go.Proofs.Tryz.f4 (nR 10 false false) = true := by kernel_rfl
theorem nt_11 (fl : Bool) : endsB p16 Go.Proofs.Tryz.f4 (nR 11 true fl) = true := by kernel_rfl
theorem nf_11_true : endsB p16 Go.Proofs.Tryz.f4 (nR 11 false true) = true := by kernel_rfl
theorem nf_11_false : endsB p16 Go.Proofs.Tryz.f4 (nR 11 false false) = true := by kernel_rfl
theorem nt_12 (fl : Bool) : endsB p16 Go.Proofs.Tryz.f4 (nR 12 true fl) = true := by kernel_rfl
theorem nf_12_true : endsB p16 Go.Proofs.Tryz.f4 (nR 12 false true) = true := by kernel_rfl
theorem nf_12_false : endsB p16 Go.Proofs.Tryz.f4 (nR 12 false false) = true := by kernel_rfl
theorem nt_13 (fl : Bool) : endsB p16 Go.Proofs.Tryz.f4 (nR 13 true fl) = true := by kernel_rfl
theorem nf_13_true : endsB p16 Go.Proofs.Tryz.f4 (nR 13 false true) = true := by kernel_rfl
theorem nf_13_false : endsB p16 Go.Proofs.Tryz.f4 (nR 13 false false) = true := by kernel_rfl
theorem nt_14 (fl : Bool) : endsB p16 Go.Proofs.Tryz.f4 (nR 14 true fl) = true := by kernel_rfl
theorem nf_14_true : endsB p16 Go.Proofs.Tryz.f4 (nR 14 false true) = true := by kernel_rfl
theorem nf_14_false : endsB p16 Go.Proofs.Tryz.f4 (nR 14 false false) = true := by kernel_rfl
theorem nt_15 (fl : Bool) : endsB p16 Go.Proofs.Tryz.f4 (nR 15 true fl) = true := by kernel_rfl
theorem nf_15_true : endsB p16 Go.Proofs.Tryz.f4 (nR 15 false true) = true := by kernel_rfl
theorem nf_15_false : endsB p16 Go.Proofs.Tryz.f4 (nR 15 false false) = true := by kernel_rfl
theorem nt_16 (fl : Bool) : endsB p16 Go.Proofs.Tryz.f4 (nR 16 true fl) = true := by kernel_rfl
theorem nf_16_true : endsB p16 Go.Proofs.Tryz.f4 (nR 16 false true) = true := by kernel_rfl
theorem nf_16_false : endsB p16 Go.Proofs.Tryz.f4 (nR 16 false false) = true := by kernel_rfl
end Go.Eng
