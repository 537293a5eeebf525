/-
  The document's answer: its contract, and our machine with that contract in its hand.
  Conditions: none.
-/
import Derived.Test.YtfcebfbdodeecaaGreatDoorEngY
namespace Go.Eng
open Go Go.Lib Go.RowKit
set_option linter.unusedVariables false
set_option maxRecDepth 20000
noncomputable abbrev p16 : Program := Go.Proofs.Tryz.prog
noncomputable def K16 : CallF := callF p16 X16 1000000 60
theorem eq_callA {P : Program} {X : FuncId → List Value → Option Value} {K : CallF} (n d : Nat) (h : K = callF P X n d) : K = callA P X n d := h.trans (funext fun f => funext fun args => funext fun H => callF_eq P X n d f args H)
theorem K16_eq : K16 = callA p16 X16 1000000 60 := eq_callA 1000000 60 (by unfold K16; rfl)
def isTrue : CR → Bool
  | .ok (.bool b) _ => b
  | _ => false
theorem isTrue_eq {x : CR} (h : isTrue x = true) : ∃ H, x = .ok (.bool true) H := by
  cases x with
  | bad l => cases h
  | ok v H =>
    cases v <;> try (cases h; done)
    case bool b =>
      obtain rfl : b = true := h
      exact ⟨H, rfl⟩
theorem told_run : isTrue (K16 10 [] ⟨.nil, 0⟩) = true := by kernel_rfl
theorem told16 (w : World) : Calls p16 10 #[] w fun e w' => e = .returned (.bool true) ∧ Below w.heap.size w w' := by
  obtain ⟨H, h⟩ := isTrue_eq told_run
  rw [K16_eq] at h
  exact calls_sound mixed16 extern16 named16 Go.Proofs.Tryz.func10 (by kernel_rfl) rfl rfl w h
theorem Inv.below {P : Program} {N : Nat → Prop} {r : Rn} {H : AH} {w w' : World} (hI : Inv P N r H w) (h : Below w.heap.size w w') : Inv P N r H w' := by
  refine ⟨fun i o hi ho => ?_, hI.sep, hI.new, hI.top, fun k hk => Nat.lt_of_lt_of_le (hI.low k hk) h.size⟩
  obtain ⟨p, hp, hN, ho'⟩ := hI.obj i o hi ho
  refine ⟨p, hp, hN, ?_⟩
  cases hdd : isDead o with
  | true =>
    cases o with
    | dead => exact Nat.lt_of_lt_of_le ho' h.size
    | cells c t g => cases hdd
    | map es => cases hdd
  | false => exact ho'.world (h.block p.b (ho'.lt hdd))
theorem run_call10 {P : Program} {g : FuncId} {fn : Func} {w : World} {args : Array Value} (hf : P.funcs[g]? = some fn) (hn : (fn.name == "runtime.NumGoroutine") = false) (hb : fn.body.isNone = false) : (callFunc g args).run P w = .ok (.enter g args) w := by
  have h1 : fn.name ≠ "runtime.NumGoroutine" := fun h => by
    rw [h] at hn
    exact absurd hn (by decide)
  have h2 : fn.body ≠ none := fun h => by
    rw [h] at hb
    cases hb
  simp [callFunc, hf, h1, h2, Sem.run_bind, Result.andThen]
noncomputable def K17 : CallF := fun f args H => match f, args with
  | 10, [] => .ok (.bool true) H
  | f, args => K16 f args H
theorem KS_of {P : Program} {X : FuncId → List Value → Option Value} {K : CallF} (n d : Nat) (hK : K = callA P X n d) (hm : P.follows .mixedOrders = true) (hX : XS P X) (hN : ∀ (g : FuncId) (fn : Func), P.funcs[g]? = some fn → fn.body.isSome = true → fn.name ≠ "runtime.NumGoroutine") : KS P K := by
  rw [hK]
  exact callA_sound hm hX hN n d
theorem kS16 : KS p16 K16 := KS_of 1000000 60 K16_eq mixed16 extern16 named16
theorem kS : KS p16 K17 := fun N r H w g args args' v H' hI hl h o c next Q hn => by
  unfold K17 at h
  split at h
  · cases h
    cases hl
    have hrun : (callFunc 10 ([] : List Value).toArray).run p16 w = .ok (.enter 10 #[]) w := by
      have hb : Go.Proofs.Tryz.f10.body.isNone = false := by kernel_rfl
      have hnm : (Go.Proofs.Tryz.f10.name == "runtime.NumGoroutine") = false := by kernel_rfl
      exact run_call10 Go.Proofs.Tryz.func10 hnm hb
    rw [hrun, Oper.upon_enter]
    refine Calls.mono (told16 w) fun e w' ⟨he, hb⟩ => ?_
    subst he
    exact hn r (.bool true) w' (Rn.le_refl _) (.bool _) (hI.below hb) ⟨hb.os, hb.tape, hb.output, hb.size, fun k hk => hb.block k (hI.low k hk)⟩
  · exact kS16 N r H w _ args args' v H' hI hl h o c next Q hn
theorem ES_of {P : Program} {K : CallF} (hm : P.follows .mixedOrders = true) (hK : KS P K) (n : Nat) : ExS P K n := exec_sound hm hK n
theorem eS (n : Nat) : ExS p16 K17 n := ES_of mixed16 kS n
end Go.Eng
