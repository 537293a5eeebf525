/-
-- HAND carrefour/route.Find route_Find
-- HAND slices.Clone[[]carrefour/api.Exchange,carrefour/api.Exchange] slices_CloneX
-- HAND slices.Clone[[]carrefour/api.Binding,carrefour/api.Binding] slices_CloneB
-- HAND strconv.Itoa strconv_Itoa
-- HAND carrefour/topic.May topic_May
-- HAND carrefour/topic.Match topic_Match
-- HAND carrefour/route.May route_May
-- HAND carrefour/route.hashed route_hashed
  Find, Clone, Itoa, May, topics as the printed proofs call them; of hashes nothing is told here.
  Conditions: none.
-/
import Derived.Test.YtpmalfabeajepaaDoorH1k
import Derived.Test.YtpmalfabeajepaaDoorFck
namespace Go.Proofs.YtpmalfabeajepaaDoorH
open Go.RowKit Go.Proofs.YtpmalfabeajepaaDoorW.PrintWords Go.Proofs.YtpmalfabeajepaaDoorW.PrintLast Go.Proofs.YtpmalfabeajepaaDoor.PGa Go.Proofs.YtpmalfabeajepaaDoor.Rt
set_option linter.unusedVariables false
noncomputable instance (x : List S25) (i : Nat) : Decidable (ExOk x i) := by unfold ExOk; infer_instance
noncomputable instance (k : Nat) (x : List S25) (l : List S28) (i : Nat) : Decidable (BOk k x l i) := by unfold BOk; infer_instance
noncomputable instance (k : Nat) (x : List S25) (l : List S28) (i : Nat) : Decidable (BNo k x l i) := by unfold BNo; infer_instance
noncomputable instance ltAll (n : Nat) (p : Nat → Prop) [DecidablePred p] : Decidable (∀ i, i < n → p i) := decidable_of_iff ((List.range n).all (fun i => decide (p i)) = true) (by simp)
noncomputable instance ltSome (n : Nat) (p : Nat → Prop) [DecidablePred p] : Decidable (∃ i, i < n ∧ p i) := decidable_of_iff ((List.range n).any (fun i => decide (p i)) = true) (by simp)
noncomputable instance (k : Nat) (x : List S25) (l : List S28) : DecidablePred (fun i => (∀ j, j < i → BOk k x l j) ∧ BNo k x l i) := fun i => by infer_instance
noncomputable instance (k : Nat) (x : List S25) (l : List S28) (r : Bool) : Decidable (MayR k x l r) := by unfold MayR; infer_instance
/-- What May answers, if it is told. -/
noncomputable def route_May.f (x : List S25) (l : List S28) : Option Bool := if MayR 10 x l true then some true else if MayR 10 x l false then some false else none
theorem route_May.calls (A0 : Option Addr) (c0 : Nat) (l0 : List S25) (A1 : Option Addr) (c1 : Nat) (l1 : List S28) (r : Bool) (w : World) (hgl : Gl w) (hr0 : Kd.C k25 w A0 l0.length l0) (hc0 : l0.length ≤ c0) (hr1 : Kd.C k28 w A1 l1.length l1) (hc1 : l1.length ≤ c1) (h : route_May.f l0 l1 = some r) :
    Calls Tryd.prog 8 #[.slice A0 l0.length c0, .slice A1 l1.length c1] w fun e w' => e = .returned (.bool r) ∧ Below w.heap.size w w' := by
  unfold route_May.f at h
  by_cases hc : MayR 10 l0 l1 true
  · rw [if_pos hc] at h
    obtain rfl := Option.some.inj h
    exact May_is 10 A0 c0 l0 A1 c1 l1 true w hr0 hc0 hr1 hgl hc
  · rw [if_neg hc] at h
    by_cases hd : MayR 10 l0 l1 false
    · rw [if_pos hd] at h
      obtain rfl := Option.some.inj h
      exact May_is 10 A0 c0 l0 A1 c1 l1 false w hr0 hc0 hr1 hgl hd
    · rw [if_neg hd] at h
      cases h
def route_hashed.f (l0 : List S28) (a1 a2 : ByteArray) : Option (List ByteArray) := none
theorem route_hashed.calls (A0 : Option Addr) (c0 : Nat) (l0 : List S28) (a1 a2 : ByteArray) (r : List ByteArray) (w : World) (_ : Gl w) (hr0 : Kd.C k28 w A0 l0.length l0) (hc0 : l0.length ≤ c0) (h : route_hashed.f l0 a1 a2 = some r) :
    Calls Tryd.prog 19 #[.slice A0 l0.length c0, .string a1, .string a2] w fun e w' => ∃ v0_ : Value, e = .returned v0_ ∧ Kd.R Kd.string 9 w' w.heap.size (fun _ => True) v0_ r ∧ Below w.heap.size w w' := by cases h
end Go.Proofs.YtpmalfabeajepaaDoorH
