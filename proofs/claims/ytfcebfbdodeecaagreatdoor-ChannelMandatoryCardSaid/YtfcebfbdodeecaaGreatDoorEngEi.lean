/-
  Our machine's operations, all of them.
  Conditions: none; plain theorems.
-/
import Derived.Test.YtfcebfbdodeecaaGreatDoorEngEh
namespace Go.Eng
open Go Go.RowKit
set_option linter.unusedVariables false
set_option linter.unusedSimpArgs false
section
variable {P : Program} {N : Nat → Prop} {r : Rn} {H H' : AH} {w : World} {a : Fr} {c : Act} {o : Oper} {v : Value}
theorem s_builtin (hI : Inv P N r H w) (hF : FrR r a c) {cl : Call} {b : Builtin} (ho : o.op = .call cl) (hc : cl.callee = .builtin b) (h : opA P a o H = some (v, H')) : Good P N r c o w v H' := by
  by_cases h1 : b = .len
  · subst h1
    exact s_len hI hF ho hc h
  by_cases h2 : b = .append
  · subst h2
    exact s_append hI hF ho hc h
  by_cases h3 : b = .clear
  · subst h3
    exact s_clear hI hF ho hc h
  have h0 := h
  unfold opA at h
  rw [ho] at h
  dsimp only at h
  rw [hc] at h
  cases hx : evs a cl.args.toList with
  | none => rw [hx] at h; cases b <;> cases h
  | some vs =>
    rw [hx] at h
    cases hp : vs.all plain with
    | false =>
      cases b <;> first | (exact absurd rfl h1) | (exact absurd rfl h2) | (exact absurd rfl h3) | (dsimp only at h; rw [hp] at h; cases h; done)
    | true =>
      cases b <;> first | (exact absurd rfl h1) | (exact absurd rfl h2) | (exact absurd rfl h3) | (dsimp only at h; rw [hp, cond_true] at h; cases h; done) | skip
      case max =>
        dsimp only at h
        rw [hp, cond_true] at h
        exact s_plainB hI hF ho hc (f := Builtin.max_) (fun _ _ _ _ => rfl) hx hp h
      case min =>
        dsimp only at h
        rw [hp, cond_true] at h
        exact s_plainB hI hF ho hc (f := Builtin.min_) (fun _ _ _ _ => rfl) hx hp h
      case real =>
        dsimp only at h
        rw [hp, cond_true] at h
        exact s_plainB hI hF ho hc (f := Builtin.real_) (fun _ _ _ _ => rfl) hx hp h
      case imag =>
        dsimp only at h
        rw [hp, cond_true] at h
        exact s_plainB hI hF ho hc (f := Builtin.imag_) (fun _ _ _ _ => rfl) hx hp h
      case complex =>
        dsimp only at h
        rw [hp, cond_true] at h
        exact s_plainB hI hF ho hc (f := Builtin.complex_) (fun _ _ _ _ => rfl) hx hp h
/-- WHAT OUR MACHINE's OPERATION ANSWERS, the model's does. -/
theorem op_sound (hI : Inv P N r H w) (hF : FrR r a c) (h : opA P a o H = some (v, H')) : Good P N r c o w v H' := by
  have h0 := h
  unfold opA at h
  cases ho : o.op <;> rw [ho] at h <;> try (cases h; done)
  case move x => exact s_move hI hF (.inl ho) h
  case assign x => exact s_move hI hF (.inr ho) h
  case pick x y z => exact s_pick hI hF ho h0
  case alloc t => exact s_alloc hI hF ho h0
  case box t x => exact s_box hI hF ho h0
  case build t p => exact s_build hI hF ho h0
  case buildSlice t l p => exact s_buildSlice hI hF ho h0
  case load t x => exact s_load hI hF ho h0
  case store t x y => exact s_store hI hF ho h0
  case nilCheck x => exact s_nilCheck hI hF ho h0
  case binOp op t x y t2 => exact s_binOp hI hF ho h0
  case unOp op t x => exact s_unOp hI hF ho h0
  case convert s t x => exact s_convert hI hF ho h0
  case makeFunc fn f g => exact s_makeFunc hI hF ho h0
  case makeMap t q =>
    cases q with
    | none => exact s_makeMap hI hF ho h0
    | some q => cases h
  case makeSlice t l cc => exact s_makeSlice hI hF ho h0
  case slice t x lo hi mx =>
    cases mx with
    | none => exact s_slice hI hF ho h0
    | some q => cases h
  case fieldAddr s x f => exact s_fieldAddr hI hF ho h0
  case field s x f => exact s_field hI hF ho h0
  case indexAddr t x ix => exact s_indexAddr hI hF ho h0
  case index t x ix => exact s_index hI hF ho h0
  case lookup t m k ok => exact s_lookup hI hF ho h0
  case mapUpdate t m k x => exact s_insert hI hF (.inr ho) h0
  case insert t m k x => exact s_insert hI hF (.inl ho) h0
  case extract x i => exact s_extract hI hF ho h0
  case call cl =>
    cases hc : cl.callee with
    | value f => dsimp only at h; rw [hc] at h; cases h
    | invoke x n => dsimp only at h; rw [hc] at h; cases h
    | builtin b => exact s_builtin hI hF ho hc h0
end
end Go.Eng
