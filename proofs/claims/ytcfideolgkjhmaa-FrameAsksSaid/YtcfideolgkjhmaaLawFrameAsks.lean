-- Written by gprint.py, this session's own program, out of Lean's print of the translation: functions with the same answers, and proofs that the Go code comes to them. Lean checks it all.
import Derived.Test.YtcfideolgkjhmaaRows
import Derived.Test.YtcfideolgkjhmaaPGsx7
import Derived.Test.YtcfideolgkjhmaaPureFrameAsks
import Derived.Test.YtcfideolgkjhmaaO
import Derived.WalkKit
import Derived.ProofKit
import Derived.OpenShut
import Derived.ShutString
import Derived.ChangeOld
import Derived.Below
import Derived.SizedLaws
namespace Go.Proofs.Ytcfideolgkjhmaa.frameAsks
open Go.ChangeShapes Go.WideShapes Go.ChangeAt Go.RowKit Go.Proofs.Ytcfideolgkjhmaa.PGs Go.Proofs.YtcfideolgkjhmaaW.PrintWords Go.Proofs.YtcfideolgkjhmaaO
open Go.ChangeMaps (open_string shut_string)
set_option linter.unusedVariables false
theorem own : ownKnob Try.prog.godebug = none := by kernel_rfl
theorem laidOut : laidOutB Try.prog = true := by kernel_rfl
set_option maxRecDepth 100000 in
theorem lifted (os : Os) (started : os.Started) (H : Type) (enc : TypeId × Value → H) :
    ReturnsInHanded {} Try.checked os 6 .any (Rows.frameAsksSpec.pre6 enc Try.prog Try.f6 Rows.frameAsksRow.domain false) (Rows.frameAsksSpec.post enc Try.prog Try.f6 false true false false) := by
  refine returnsInHanded_of_change_sized (C := Try.checked) own started (by kernel_rfl) Try.func6
    (ChangeSpec.witness6 (enc := enc) (C := Try.checked) false ⟨#[], #[.agg #[.int .i64 0, .int .i64 0, .slice none 0 0], .agg #[.int .i64 0, .int .i64 0, .slice none 0 0], .slice none 0 0], []⟩ 8 (by kernel_rfl) (by kernel_rfl) (by kernel_rfl) (by kernel_rfl)) ?_
  intro W base args ds gs before hval0 hW hcnd hsz0 _
  have hsz : (DataW.weightsEach Try.prog (Try.f6.params.toList ++ Rows.frameAsksSpec.plain.varTypes Try.prog) (ds ++ gs)).all (· ≤ reachBytes) = true := hsz0
  have hval : ∀ (j : Nat) t v, Try.f6.params[j]? = some t → args[j]? = some v → Value.okWide Try.prog W .any base t v := hval0
  have hW' := hW
  obtain ⟨p, q, hA0, hV, rfl, hfz, hnd⟩ := hW
  have hA : DataW.TrodAll enc Try.prog W 0 (fun _ => true) true Try.f6.params.toList args.toList ds p := hA0
  rw [Try.params6] at hA hval hsz
  obtain ⟨v0, vs0, d0, ds0, p0, q0, hargs, rfl, rfl, h0, r0⟩ := trodAll_cons hA
  obtain ⟨v1, vs1, d1, ds1, p1, q1, rfl, rfl, rfl, h1, r1⟩ := trodAll_cons r0
  obtain ⟨v2, vs2, d2, ds2, p2, q2, rfl, rfl, rfl, h2, r2⟩ := trodAll_cons r1
  obtain ⟨rfl, rfl, rfl⟩ := trodAll_nil r2
  obtain rfl : args = #[v0, v1, v2] := by cases args; simp_all
  obtain ⟨rfl, rfl⟩ := trodVars_none hV
  obtain ⟨cs0, rfl, hcz0⟩ := okWide_struct Try.underlying24 (hval 0 24 v0 rfl rfl)
  have k0 := h0
  have lt0 : ∀ x ∈ p0, x.block < W.heap.size := by obtain ⟨m, hm⟩ := k0; exact DataW.trod_lt m _ _ _ hm
  obtain ⟨b0, hb0, hok0⟩ := arg_struct (opens_struct Try.underlying24 (by kernel_rfl) (opensF_cons rfl (opens_int Try.underlying3 (by kernel_rfl)) (opensF_cons rfl (opens_int Try.underlying3 (by kernel_rfl)) (opensF_one rfl (opens_slice (B := 1) Try.underlying22 (by kernel_rfl) (opens_int Try.underlying5 (by kernel_rfl)) (by kernel_rfl)))))) h0 (weigh hsz (j := 0) (t := 24) rfl rfl)
  obtain ⟨q0_0, r0_0, e0_0, h0_0, q0_1, r0_1, e0_1, h0_1, h0_2⟩ := hb0
  have g0_0 : q0_0 = [.int .i64 b0.1] := h0_0
  have g0_1 : q0_1 = [.int .i64 b0.2.1] := h0_1
  obtain ⟨A0_2, c0_2, g0_2, hle0_2, hC0_2⟩ := h0_2
  obtain rfl : cs0 = #[.int .i64 b0.1, .int .i64 b0.2.1, .slice A0_2 b0.2.2.length c0_2] := by
    apply Array.ext'
    rw [e0_0, e0_1, g0_0, g0_1, g0_2]
    rfl
  obtain ⟨w0_0, w0_1, w0_2⟩ := hok0
  obtain ⟨cs1, rfl, hcz1⟩ := okWide_struct Try.underlying24 (hval 1 24 v1 rfl rfl)
  have k1 := h1
  have lt1 : ∀ x ∈ p1, x.block < W.heap.size := by obtain ⟨m, hm⟩ := k1; exact DataW.trod_lt m _ _ _ hm
  obtain ⟨b1, hb1, hok1⟩ := arg_struct (opens_struct Try.underlying24 (by kernel_rfl) (opensF_cons rfl (opens_int Try.underlying3 (by kernel_rfl)) (opensF_cons rfl (opens_int Try.underlying3 (by kernel_rfl)) (opensF_one rfl (opens_slice (B := 1) Try.underlying22 (by kernel_rfl) (opens_int Try.underlying5 (by kernel_rfl)) (by kernel_rfl)))))) h1 (weigh hsz (j := 1) (t := 24) rfl rfl)
  obtain ⟨q1_0, r1_0, e1_0, h1_0, q1_1, r1_1, e1_1, h1_1, h1_2⟩ := hb1
  have g1_0 : q1_0 = [.int .i64 b1.1] := h1_0
  have g1_1 : q1_1 = [.int .i64 b1.2.1] := h1_1
  obtain ⟨A1_2, c1_2, g1_2, hle1_2, hC1_2⟩ := h1_2
  obtain rfl : cs1 = #[.int .i64 b1.1, .int .i64 b1.2.1, .slice A1_2 b1.2.2.length c1_2] := by
    apply Array.ext'
    rw [e1_0, e1_1, g1_0, g1_1, g1_2]
    rfl
  obtain ⟨w1_0, w1_1, w1_2⟩ := hok1
  obtain ⟨a2, len2, cap2, rfl⟩ := okWide_slice Try.underlying22 (hval 2 22 v2 rfl rfl)
  have k2 := h2
  have lt2 : ∀ x ∈ p2, x.block < W.heap.size := by obtain ⟨m, hm⟩ := k2; exact DataW.trod_lt m _ _ _ hm
  obtain ⟨l2, rfl, hC2, hle2, hok2⟩ := arg_slice (opens_slice (B := 1) Try.underlying22 (by kernel_rfl) (opens_int Try.underlying5 (by kernel_rfl)) (by kernel_rfl)) h2 (weigh hsz (j := 2) (t := 22) rfl rfl)
  clear hA0 hval0 hsz0 hsz
  obtain ⟨k, h⟩ := Pure.FrameAsks b0.1 b0.2.1 b0.2.2 b1.1 b1.2.1 b1.2.2 l2 w0_0 w0_1 w0_2 w1_0 w1_1 w1_2 hok2
  refine (carrefourlaw4_FrameAsks.calls k b0.1 b0.2.1 _ _ b0.2.2 b1.1 b1.2.1 _ _ b1.2.2 _ _ l2 true W hC0_2 hle0_2 hC1_2 hle1_2 hC2 hle2 rfl h).mono fun e W' ⟨he, bel⟩ => ?_
  subst he
  exact ⟨_, rfl, _, _, _, [], _, [], hW', trodAll_mk1 (shut_bool Try.underlying4 _), (trodAll_cons_mk (Below.trod laidOut (by kernel_rfl) (of_decide_eq_true (by kernel_rfl)) k0 bel lt0) (trodAll_cons_mk (Below.trod laidOut (by kernel_rfl) (of_decide_eq_true (by kernel_rfl)) k1 bel lt1) (trodAll_cons_mk (Below.trod laidOut (by kernel_rfl) (of_decide_eq_true (by kernel_rfl)) k2 bel lt2) trodAll_mk0))), rfl, bel.frame _, fun h => by cases h⟩
theorem over : Rows.frameAsksRow.holds Try.pinned (OpenSpec.ofChange Rows.frameAsksSpec) :=
  OpenClaim.holds_of_wide 6 Try.f6 rfl rfl rfl rfl rfl rfl rfl ⟨rfl, rfl, rfl, rfl, rfl⟩ rfl rfl rfl rfl rfl (by kernel_rfl) Try.func6 (by kernel_rfl)
    (of_decide_eq_true (by kernel_rfl)) (by unfold Func.isWrapper; first | (rw [if_pos (by decide +kernel)]; kernel_rfl) | (rw [if_neg (by decide +kernel)]; exact ⟨rfl, rfl⟩))
    (fun os started H enc _ => lifted os started H enc)
theorem proved : Rows.FrameAsksSaid := over
#print axioms proved
end Go.Proofs.Ytcfideolgkjhmaa.frameAsks
namespace Go.Proofs.Ytcfideolgkjhmaa
/-- The row, under a short name, for the claim. -/
theorem frameAsks_holds : Rows.FrameAsksSaid := frameAsks.proved
end Go.Proofs.Ytcfideolgkjhmaa
