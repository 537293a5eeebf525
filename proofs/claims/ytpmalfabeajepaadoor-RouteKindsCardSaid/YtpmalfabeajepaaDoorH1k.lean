/-
-- HAND carrefour/route.Find route_Find
-- HAND slices.Clone[[]carrefour/api.Exchange,carrefour/api.Exchange] slices_CloneX
-- HAND slices.Clone[[]carrefour/api.Binding,carrefour/api.Binding] slices_CloneB
-- HAND strconv.Itoa strconv_Itoa
-- HAND carrefour/topic.May topic_May
-- HAND carrefour/topic.Match topic_Match
  Find, Clone, Itoa (of 0 to 99) as the printed proofs call them, topics by Hb.
  Conditions: none.
-/
import Derived.Test.YtpmalfabeajepaaDoorFa
import Derived.Test.YtpmalfabeajepaaDoorHb
namespace Go.Proofs.YtpmalfabeajepaaDoorH
open Go.RowKit Go.Proofs.YtpmalfabeajepaaDoorW.PrintWords Go.Proofs.YtpmalfabeajepaaDoorW.PrintLast Go.Proofs.YtpmalfabeajepaaDoor.PGa Go.Proofs.YtpmalfabeajepaaDoor.Rt
set_option linter.unusedVariables false
def route_Find.f (l0 : List S25) (a1 : ByteArray) : Option Int := if l0.length ≤ 1000000 then some (idxI (nameIs a1) l0) else none
theorem route_Find.calls (A0 : Option Addr) (c0 : Nat) (l0 : List S25) (a1 : ByteArray) (r : Int) (w : World) (_ : Gl w) (hr0 : Kd.C k25 w A0 l0.length l0) (hc0 : l0.length ≤ c0) (h : route_Find.f l0 a1 = some r) :
    Calls Tryd.prog 14 #[.slice A0 l0.length c0, .string a1] w fun e w' => e = .returned (.int .i64 r) ∧ Below w.heap.size w w' := by
  unfold route_Find.f at h
  by_cases hc : l0.length ≤ 1000000
  · rw [if_pos hc] at h
    obtain rfl := Option.some.inj h
    exact Find_is A0 c0 l0 a1 w hr0 hc
  · rw [if_neg hc] at h
    cases h
def slices_CloneX.f (l0 : List S25) : Option (List S25) := if l0.length ≤ 1000000 then some l0 else none
theorem slices_CloneX.calls (A0 : Option Addr) (c0 : Nat) (l0 : List S25) (r : List S25) (w : World) (_ : Gl w) (hr0 : Kd.C k25 w A0 l0.length l0) (hc0 : l0.length ≤ c0) (h : slices_CloneX.f l0 = some r) :
    Calls Tryd.prog 29 #[.slice A0 l0.length c0] w fun e w' => ∃ v0_ : Value, e = .returned v0_ ∧ Kd.R k25 25 w' w.heap.size (fun _ => True) v0_ r ∧ Below w.heap.size w w' := by
  unfold slices_CloneX.f at h
  by_cases hc : l0.length ≤ 1000000
  · rw [if_pos hc] at h
    obtain rfl := Option.some.inj h
    exact ClX_is A0 c0 l0 w hr0 hc
  · rw [if_neg hc] at h
    cases h
def slices_CloneB.f (l0 : List S28) : Option (List S28) := if l0.length ≤ 1000000 then some l0 else none
theorem slices_CloneB.calls (A0 : Option Addr) (c0 : Nat) (l0 : List S28) (r : List S28) (w : World) (_ : Gl w) (hr0 : Kd.C k28 w A0 l0.length l0) (hc0 : l0.length ≤ c0) (h : slices_CloneB.f l0 = some r) :
    Calls Tryd.prog 28 #[.slice A0 l0.length c0] w fun e w' => ∃ v0_ : Value, e = .returned v0_ ∧ Kd.R k28 28 w' w.heap.size (fun _ => True) v0_ r ∧ Below w.heap.size w w' := by
  unfold slices_CloneB.f at h
  by_cases hc : l0.length ≤ 1000000
  · rw [if_pos hc] at h
    obtain rfl := Option.some.inj h
    exact ClB_is A0 c0 l0 w hr0 hc
  · rw [if_neg hc] at h
    cases h
def strconv_Itoa.f (a0 : Int) : Option ByteArray := if 0 ≤ a0 ∧ a0 < 100 then some ⟨(Lib.decDigits a0.toNat).toArray⟩ else none
theorem strconv_Itoa.calls (a0 : Int) (r : ByteArray) (w : World) (_ : Gl w) (h : strconv_Itoa.f a0 = some r) :
    Calls Tryd.prog 34 #[.int .i64 a0] w fun e w' => e = .returned (.string r) ∧ Below w.heap.size w w' := by
  unfold strconv_Itoa.f at h
  by_cases hc : 0 ≤ a0 ∧ a0 < 100
  · rw [if_pos hc] at h
    obtain rfl := Option.some.inj h
    have e0 : a0 = (a0.toNat : Int) := by omega
    have := Tryd.strconv_Itoa_small a0.toNat (by omega) w
    rw [← e0] at this
    refine this.mono ?_
    rintro e w' ⟨rfl, rfl⟩
    exact ⟨rfl, Below.refl _ _⟩
  · rw [if_neg hc] at h
    cases h
end Go.Proofs.YtpmalfabeajepaaDoorH
