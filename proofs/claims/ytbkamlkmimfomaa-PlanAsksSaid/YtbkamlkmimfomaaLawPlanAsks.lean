/-
  PlanAsks: for every input the law returns true and leaves its arguments as they were.
  Conditions: none.
-/
import Derived.Test.YtbkamlkmimfomaaRows
import Derived.Test.YtbkamlkmimfomaaPx
import Derived.Test.YtbkamlkmimfomaaO
import Derived.WalkKit
import Derived.ProofKit
import Derived.OpenShut
import Derived.ShutString
import Derived.ChangeOld
import Derived.Below
import Derived.SizedLaws
namespace Go.Proofs.Ytbkamlkmimfomaa.planAsks
open Go.ChangeShapes Go.WideShapes Go.ChangeAt Go.RowKit Go.Proofs.YtbkamlkmimfomaaW.PrintWords Go.Proofs.YtbkamlkmimfomaaO Go.Proofs.Ytbkamlkmimfomaa.PGa
open Go.ChangeMaps (open_string shut_string)
set_option linter.unusedVariables false
theorem own : ownKnob Try.prog.godebug = none := by kernel_rfl
theorem laidOut : laidOutB Try.prog = true := by kernel_rfl
set_option maxRecDepth 100000 in
theorem lifted (os : Os) (started : os.Started) (H : Type) (enc : TypeId × Value → H) :
    ReturnsInHanded {} Try.checked os 3 .any (Rows.planAsksSpec.pre6 enc Try.prog Try.f3 Rows.planAsksRow.domain false) (Rows.planAsksSpec.post enc Try.prog Try.f3 false true false false) := by
  refine returnsInHanded_of_change_sized (C := Try.checked) own started (by kernel_rfl) Try.func3
    (ChangeSpec.witness6 (enc := enc) (C := Try.checked) false ⟨#[], #[.agg #[.int .i64 0, .slice none 0 0, .slice none 0 0], .slice none 0 0, .int .i64 0], []⟩ 8 (by kernel_rfl) (by kernel_rfl) (by kernel_rfl) (by kernel_rfl)) ?_
  intro W base args ds gs before hval0 hW hcnd hsz0 _
  have hsz : (DataW.weightsEach Try.prog (Try.f3.params.toList ++ Rows.planAsksSpec.plain.varTypes Try.prog) (ds ++ gs)).all (· ≤ reachBytes) = true := hsz0
  have hval : ∀ (j : Nat) t v, Try.f3.params[j]? = some t → args[j]? = some v → Value.okWide Try.prog W .any base t v := hval0
  have hW' := hW
  obtain ⟨p, q, hA0, hV, rfl, hfz, hnd⟩ := hW
  have hA : DataW.TrodAll enc Try.prog W 0 (fun _ => true) true Try.f3.params.toList args.toList ds p := hA0
  rw [Try.params3] at hA hval hsz
  obtain ⟨v0, vs0, d0, ds0, p0, q0, hargs, rfl, rfl, h0, r0⟩ := trodAll_cons hA
  obtain ⟨v1, vs1, d1, ds1, p1, q1, rfl, rfl, rfl, h1, r1⟩ := trodAll_cons r0
  obtain ⟨v2, vs2, d2, ds2, p2, q2, rfl, rfl, rfl, h2, r2⟩ := trodAll_cons r1
  obtain ⟨rfl, rfl, rfl⟩ := trodAll_nil r2
  obtain rfl : args = #[v0, v1, v2] := by cases args; simp_all
  obtain ⟨rfl, rfl⟩ := trodVars_none hV
  obtain ⟨cs0, rfl, hcz0⟩ := okWide_struct Try.underlying25 (hval 0 25 v0 rfl rfl)
  have k0 := h0
  have lt0 : ∀ x ∈ p0, x.block < W.heap.size := by obtain ⟨m, hm⟩ := k0; exact DataW.trod_lt m _ _ _ hm
  obtain ⟨b0, hb0, hok0⟩ := arg_struct (opens_struct Try.underlying25 (by kernel_rfl) (opensF_cons rfl (opens_int Try.underlying3 (by kernel_rfl)) (opensF_cons rfl (opens_slice (B := 16) Try.underlying22 (by kernel_rfl) (show Opens Try.prog 46 k46 _ from opens_iso (opens_struct Try.underlying46 (by kernel_rfl) (opensF_cons rfl (opens_int Try.underlying44 (by kernel_rfl)) (opensF_one rfl (opens_int Try.underlying3 (by kernel_rfl))))) (fun x_ : S46 => (x_.f0, x_.f1)) (fun a_ => ⟨a_.1, a_.2⟩) (fun _ => rfl)) (by kernel_rfl)) (opensF_one rfl (opens_slice (B := 8) Try.underlying23 (by kernel_rfl) (opens_int Try.underlying3 (by kernel_rfl)) (by kernel_rfl)))))) h0 (weigh hsz (j := 0) (t := 25) rfl rfl)
  obtain ⟨q0_0, r0_0, e0_0, h0_0, q0_1, r0_1, e0_1, h0_1, h0_2⟩ := hb0
  have g0_0 : q0_0 = [.int .i64 b0.1] := h0_0
  obtain ⟨A0_1, c0_1, g0_1, hle0_1, hC0_1⟩ := h0_1
  obtain ⟨A0_2, c0_2, g0_2, hle0_2, hC0_2⟩ := h0_2
  obtain rfl : cs0 = #[.int .i64 b0.1, .slice A0_1 b0.2.1.length c0_1, .slice A0_2 b0.2.2.length c0_2] := by
    apply Array.ext'
    rw [e0_0, e0_1, g0_0, g0_1, g0_2]
    rfl
  obtain ⟨w0_0, w0_1, w0_2⟩ := hok0
  obtain ⟨a1, len1, cap1, rfl⟩ := okWide_slice Try.underlying23 (hval 1 23 v1 rfl rfl)
  have k1 := h1
  have lt1 : ∀ x ∈ p1, x.block < W.heap.size := by obtain ⟨m, hm⟩ := k1; exact DataW.trod_lt m _ _ _ hm
  obtain ⟨l1, rfl, hC1, hle1, hok1⟩ := arg_slice (opens_slice (B := 8) Try.underlying23 (by kernel_rfl) (opens_int Try.underlying3 (by kernel_rfl)) (by kernel_rfl)) h1 (weigh hsz (j := 1) (t := 23) rfl rfl)
  obtain ⟨a2, rfl, rfl, rfl, w2⟩ := open_int Try.underlying3 (hval 2 3 v2 rfl rfl) h2
  clear hA0 hval0 hsz0 hsz
  refine (PlanAsks_is b0.1 A0_1 c0_1 b0.2.1 A0_2 c0_2 b0.2.2 a1 cap1 l1 a2 W hC0_1 hle0_1 hC0_2 hle0_2 hC1 hle1 (fun x hx => wf32a (w0_1.2 x hx).1)).mono fun e W' ⟨he, bel⟩ => ?_
  subst he
  exact ⟨_, rfl, _, _, _, [], _, [], hW', trodAll_mk1 (shut_bool Try.underlying4 _), (trodAll_cons_mk (Below.trod laidOut (by kernel_rfl) (of_decide_eq_true (by kernel_rfl)) k0 bel lt0) (trodAll_cons_mk (Below.trod laidOut (by kernel_rfl) (of_decide_eq_true (by kernel_rfl)) k1 bel lt1) (trodAll_cons_mk (shut_int Try.underlying3 w2) trodAll_mk0))), rfl, bel.frame _, fun h => by cases h⟩
theorem over : Rows.planAsksRow.holds Try.pinned (OpenSpec.ofChange Rows.planAsksSpec) :=
  OpenClaim.holds_of_wide 3 Try.f3 rfl rfl rfl rfl rfl rfl rfl ⟨rfl, rfl, rfl, rfl, rfl⟩ rfl rfl rfl rfl rfl (by kernel_rfl) Try.func3 (by kernel_rfl)
    (of_decide_eq_true (by kernel_rfl)) (by unfold Func.isWrapper; first | (rw [if_pos (by decide +kernel)]; kernel_rfl) | (rw [if_neg (by decide +kernel)]; exact ⟨rfl, rfl⟩))
    (fun os started H enc _ => lifted os started H enc)
end Go.Proofs.Ytbkamlkmimfomaa.planAsks
namespace Go.Proofs.Ytbkamlkmimfomaa
/-- The statement. -/
theorem planAsks_holds : Rows.PlanAsksSaid := planAsks.over
#print axioms planAsks_holds
end Go.Proofs.Ytbkamlkmimfomaa
