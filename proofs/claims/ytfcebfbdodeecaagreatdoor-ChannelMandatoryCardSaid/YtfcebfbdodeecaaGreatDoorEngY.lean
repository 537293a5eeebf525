/-
  Our machine over a law: cut into pieces, with a letter for an argument.
  Conditions: none.
-/
import Derived.Test.YtfcebfbdodeecaaGreatDoorEngX
import Derived.Test.YtfcebfbdodeecaaGreatDoorEngFa
namespace Go.Eng
open Go Go.Lib Go.RowKit
set_option linter.unusedVariables false
def cf : Code → Code
  | .seq x _ => x
  | c => c
def cs : Code → Code
  | .seq _ y => y
  | c => c
def nf : ExR → Fr
  | .normal a _ => a
  | _ => ⟨0, .nil⟩
def nh : ExR → AH
  | .normal _ H => H
  | _ => ⟨.nil, 0⟩
def isN : ExR → Bool
  | .normal _ _ => true
  | _ => false
theorem isN_eq {x : ExR} (h : isN x = true) : x = .normal (nf x) (nh x) := by
  cases x <;> first | rfl | cases h
section
variable {P : Program} {K : CallF} {N : Nat → Prop} {r : Rn} {H : AH} {a : Fr} {c : Act} {w : World} {Q : Exit → Act → World → Prop}
theorem AF.lit {t : Nat} {k : IntKind} {x y : Int} (h : AF r a c) (hs : slot a t = .int k y) (e : y = x) : AF r (putD a (some t) (.int k x)) c := by
  refine ⟨⟨by rw [putD_m]; exact h.1.1, by rw [putD_m]; exact h.1.2.1, fun s hs2 => ?_⟩, h.2⟩
  rw [putD_m] at hs2
  rw [slot_put h.1.2.1 hs2]
  have := h.1.2.2 s hs2
  by_cases e2 : t = s
  · subst e2
    rw [if_pos rfl, ← e, ← hs]
    exact this
  · rw [if_neg e2]
    exact this
theorem wp_cut0 {n : Nat} (hS : ExS P K n) {x y : Code} (hex : isN (execA P K n none x a H) = true) (hI : Inv P N r H w) (hF : AF r a c)
    (hy : ∀ s c' w', Rn.le r s → AF s (nf (execA P K n none x a H)) c' → Inv P N s (nh (execA P K n none x a H)) w' → Bel N w w' → y.wp P Q c' w') : (Code.seq x y).wp P Q c w := by
  have hx := isN_eq hex
  refine wp_seq (wp_mono (hS.wp x a H N r w c (by rw [hx]; rfl) hI hF) fun e c' w' h => ?_)
  rw [hx] at h
  cases e <;> first | exact h.elim | skip
  obtain ⟨s, g1, g2, g3, g4⟩ := h
  exact hy s c' w' g1 g2 g3 g4
theorem wp_cut {n : Nat} (hS : ExS P K n) {x y : Code} (hex : isN (execB P K n none x a H) = true) (hI : Inv P N r H w) (hF : AF r a c)
    (hy : ∀ s c' w', Rn.le r s → AF s (nf (execB P K n none x a H)) c' → Inv P N s (nh (execB P K n none x a H)) w' → Bel N w w' → y.wp P Q c' w') : (Code.seq x y).wp P Q c w := by
  rw [execB_eq] at hex hy
  exact wp_cut0 hS hex hI hF hy
/-- What is left of a body, run to its end. -/
noncomputable def endsB (P : Program) (fn : Func) (x : ExR) : Bool := match x with
  | .normal a H => (match finA P fn a H with | .ok (.bool b) _ => b | _ => false)
  | .ret a H => (match finA P fn a H with | .ok (.bool b) _ => b | _ => false)
  | _ => false
theorem wp_fin0 {n : Nat} (hS : ExS P K n) {y : Code} {fn : Func} (hex : endsB P fn (execA P K n none y a H) = true) (hI : Inv P N r H w) (hF : AF r a c) {R : Ending → World → Prop} (hR : ∀ w', Bel N w w' → R (.returned (.bool true)) w') : y.wp P (bodyPost P fn R) c w := by
  have hfin : ∀ {a1 : Fr} {H1 : AH} {c1 : Act} {w1 : World}, (match finA P fn a1 H1 with | .ok (.bool b) _ => b | _ => false) = true → Rel P N r w a1 H1 c1 w1 → c1.defers = [] ∧ ∃ v', (results fn c1.tmps).run P w1 = .ok v' w1 ∧ R (.returned v') w1 := by
    intro a1 H1 c1 w1 hfa ⟨s, g1, g2, g3, g4⟩
    cases hx : finA P fn a1 H1 with
    | bad l => rw [hx] at hfa; cases hfa
    | ok v H2 =>
      rw [hx] at hfa
      cases v <;> try (cases hfa; done)
      case bool b =>
        obtain rfl : b = true := hfa
        obtain ⟨rfl, v', k1, k2⟩ := results_sound g3 g2.1 hx
        have : v' = .bool true := plain_eq rfl k2
        subst this
        exact ⟨g2.2, _, k1, hR w1 g4⟩
  have hg : good (execA P K n none y a H) = true := by
    cases hx : execA P K n none y a H <;> rw [hx] at hex <;> first | rfl | (cases hex; done)
  refine wp_mono (hS.wp y a H N r w c hg hI hF) fun e c1 w1 h1 => ?_
  cases hx : execA P K n none y a H <;> rw [hx] at hex h1 <;> cases e <;> first | exact h1.elim | (cases hex; done) | exact hfin hex h1
theorem wp_fin {n : Nat} (hS : ExS P K n) {y : Code} {fn : Func} (hex : endsB P fn (execB P K n none y a H) = true) (hI : Inv P N r H w) (hF : AF r a c) {R : Ending → World → Prop} (hR : ∀ w', Bel N w w' → R (.returned (.bool true)) w') : y.wp P (bodyPost P fn R) c w := by
  rw [execB_eq] at hex
  exact wp_fin0 hS hex hI hF hR
theorem empty_inv (w : World) : Inv P (fun k => k < w.heap.size) (fun _ => none) ⟨.nil, 0⟩ w := by
  refine ⟨fun i o hi ho => ?_, fun i j oi oj pi pj hi hj ho => ?_, fun i hi _ => rfl, Nat.zero_le _, fun k hk => hk⟩
  · rw [obj_nil] at ho
    cases ho
  · rw [obj_nil] at ho
    cases ho
theorem bel_below {a w : World} (h : Bel (fun k => k < a.heap.size) a w) : Below a.heap.size a w := ⟨h.os, h.tape, h.output, h.size, h.block⟩
end
end Go.Eng
