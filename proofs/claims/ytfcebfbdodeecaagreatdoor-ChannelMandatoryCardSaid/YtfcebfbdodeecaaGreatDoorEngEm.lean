/-
  Regions whose order is drawn: what our machine looks up, and what it means.
  Conditions: none; plain theorems.
-/
import Derived.Test.YtfcebfbdodeecaaGreatDoorEngEj
namespace Go.Eng
open Go Go.RowKit
set_option linter.unusedVariables false
set_option linter.unusedSimpArgs false
section
variable {P : Program} {H H' : AH} {a : Fr} {o : Oper} {v : Value}
theorem okV_same {x : Option Value} (h : okV x H = some (v, H')) : H' = H := (okV_some h).2
theorem okP_same {x : Option Value} (h : okP x H = some (v, H')) : H' = H := (okP_some h).2.1
theorem cond_some {α : Type} {c : Bool} {x : Option α} {y : α} (h : cond c x none = some y) : x = some y := by
  cases c with
  | true => exact h
  | false => cases h
theorem cond_two {α : Type} {c : Bool} {x z : Option α} {y : α} (h : cond c x z = some y) : x = some y ∨ z = some y := by
  cases c with
  | true => exact .inl h
  | false => exact .inr h
theorem okc {α : Type} {x y : α} (h : some x = some y) : x = y := Option.some.inj h
/-- An operation that has no effect leaves the memory. -/
theorem same_of_quiet (hq : isEff o.op = false) (h : opA P a o H = some (v, H')) : H' = H := by
  unfold opA at h
  cases ho : o.op <;> rw [ho] at h hq <;> first | (cases (show true = false from hq); done) | (cases h; done) | (exact okV_same h) | skip
  case call c =>
    unfold isEff at hq
    cases hc : c.callee with
    | value f => dsimp only at h; rw [hc] at h; cases h
    | invoke x n => dsimp only at h; rw [hc] at h; cases h
    | builtin b =>
      try dsimp only at h hq
      rw [hc] at h hq
      cases b <;> first | (cases (show true = false from hq); done) | (cases h; done) | skip
      all_goals try dsimp only at h
      all_goals (repeat' (first | (exact okV_same h) | (exact okP_same h) | (cases h; done) | (cases h; rfl) | (replace h := cond_some h) | split at h | (rcases cond_two h with h | h)))
  case build => (try dsimp only at h); (repeat' (first | (exact okV_same h) | (exact okP_same h) | (cases h; done) | (cases h; rfl) | (replace h := cond_some h) | split at h | (rcases cond_two h with h | h)))
  case extract => (try dsimp only at h); (repeat' (first | (exact okV_same h) | (exact okP_same h) | (cases h; done) | (cases h; rfl) | (replace h := cond_some h) | split at h | (rcases cond_two h with h | h)))
  case field => (try dsimp only at h); (repeat' (first | (exact okV_same h) | (exact okP_same h) | (cases h; done) | (cases h; rfl) | (replace h := cond_some h) | split at h | (rcases cond_two h with h | h)))
  case fieldAddr => (try dsimp only at h); (repeat' (first | (exact okV_same h) | (exact okP_same h) | (cases h; done) | (cases h; rfl) | (replace h := cond_some h) | split at h | (rcases cond_two h with h | h)))
  case load => (try dsimp only at h); (repeat' (first | (exact okV_same h) | (exact okP_same h) | (cases h; done) | (cases h; rfl) | (replace h := cond_some h) | split at h | (rcases cond_two h with h | h)))
  case nilCheck => (try dsimp only at h); (repeat' (first | (exact okV_same h) | (exact okP_same h) | (cases h; done) | (cases h; rfl) | (replace h := cond_some h) | split at h | (rcases cond_two h with h | h)))
  case pick => (try dsimp only at h); (repeat' (first | (exact okV_same h) | (exact okP_same h) | (cases h; done) | (cases h; rfl) | (replace h := cond_some h) | split at h | (rcases cond_two h with h | h)))
  case binOp => (try dsimp only at h); (repeat' (first | (exact okV_same h) | (exact okP_same h) | (cases h; done) | (cases h; rfl) | (replace h := cond_some h) | split at h | (rcases cond_two h with h | h)))
  case unOp => (try dsimp only at h); (repeat' (first | (exact okV_same h) | (exact okP_same h) | (cases h; done) | (cases h; rfl) | (replace h := cond_some h) | split at h | (rcases cond_two h with h | h)))
  case convert => (try dsimp only at h); (repeat' (first | (exact okV_same h) | (exact okP_same h) | (cases h; done) | (cases h; rfl) | (replace h := cond_some h) | split at h | (rcases cond_two h with h | h)))
  case makeFunc => (try dsimp only at h); (repeat' (first | (exact okV_same h) | (exact okP_same h) | (cases h; done) | (cases h; rfl) | (replace h := cond_some h) | split at h | (rcases cond_two h with h | h)))
  case lookup => (try dsimp only at h); (repeat' (first | (exact okV_same h) | (exact okP_same h) | (cases h; done) | (cases h; rfl) | (replace h := cond_some h) | split at h | (rcases cond_two h with h | h)))
  case slice t x lo hi mx =>
    cases mx with
    | some q => cases h
    | none =>
      dsimp only at h
      cases hx : ev a x with
      | none => rw [hx] at h; cases h
      | some u =>
        rw [hx] at h
        cases u <;> try (cases h; done)
        case string s =>
          dsimp only at h
          cases hu : P.underlying t with
          | none => rw [hu] at h; cases h
          | some d =>
            rw [hu] at h
            cases d <;> try (cases h; done)
            case string =>
              (repeat' (first | (exact okV_same h) | (exact okP_same h) | (cases h; done) | (cases h; rfl) | (replace h := cond_some h) | split at h | (rcases cond_two h with h | h)))
        case slice base len cap =>
          dsimp only at h
          cases hu : P.underlying t with
          | none => rw [hu] at h; cases h
          | some d =>
            rw [hu] at h
            cases d <;> try (cases h; done)
            case slice e =>
              dsimp only at h
              cases hs : sizeT P e with
              | none => rw [hs] at h; cases h
              | some z =>
                rw [hs] at h
                cases hb : boundO a hi len cap with
                | none => rw [hb] at h; cases h
                | some hh =>
                  rw [hb] at h
                  cases hl : boundO a lo 0 hh with
                  | none => dsimp only at h; rw [hl] at h; cases h
                  | some ll =>
                    dsimp only at h
                    rw [hl] at h
                    dsimp only at h
                    cases base with
                    | none => (repeat' (first | (exact okV_same h) | (exact okP_same h) | (cases h; done) | (cases h; rfl) | (replace h := cond_some h) | split at h | (rcases cond_two h with h | h)))
                    | some p => (repeat' (first | (exact okV_same h) | (exact okP_same h) | (cases h; done) | (cases h; rfl) | (replace h := cond_some h) | split at h | (rcases cond_two h with h | h)))
        case pointer q =>
          cases q with
          | none => cases h
          | some p =>
            dsimp only at h
            cases hu : P.underlying t with
            | none => rw [hu] at h; cases h
            | some d =>
              rw [hu] at h
              cases d <;> try (cases h; done)
              case array => (repeat' (first | (exact okV_same h) | (exact okP_same h) | (cases h; done) | (cases h; rfl) | (replace h := cond_some h) | split at h | (rcases cond_two h with h | h)))
  case index => (try dsimp only at h); (repeat' (first | (exact okV_same h) | (exact okP_same h) | (cases h; done) | (cases h; rfl) | (replace h := cond_some h) | split at h | (rcases cond_two h with h | h)))
  case indexAddr => (try dsimp only at h); (repeat' (first | (exact okV_same h) | (exact okP_same h) | (cases h; done) | (cases h; rfl) | (replace h := cond_some h) | split at h | (rcases cond_two h with h | h)))
end
end Go.Eng
