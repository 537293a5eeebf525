/-
  ChannelModes: for every row of numbers the law's call returns true.
  Conditions: none.
-/
import Derived.Test.YtfcebfbdodeecaaGreatDoorEngMd
import Derived.Test.YtfcebfbdodeecaaGreatDoorWWords
import Derived.WideShapes
namespace Go.Eng
open Go Go.Lib Go.RowKit Go.Proofs.YtfcebfbdodeecaaGreatDoorW.PrintWords
set_option linter.unusedVariables false
theorem spot_of {P : Program} {w : World} {base : Nat} {t e : TypeId} {A : Option Addr} {l c : Nat} (hu : P.underlying t = some (.slice e)) (h : Value.okWide P w .any base t (.slice A l c)) : ∀ a, A = some a → a.spot = none := by
  rintro a rfl
  simp only [Value.okWide, hu, Cell.okWide, Cell.ok, World.has] at h
  exact h.2.2.2.1
theorem modes (W : World) (A : Option Addr) (cap : Nat) (xs : List Int) (hA : ∀ a, A = some a → a.spot = none) (hC : (Kd.int .i64).C W A xs.length xs) : Calls p16 3 #[.slice A xs.length cap] W fun e w' => e = .returned (.bool true) ∧ Below W.heap.size W w' := by
  cases A with
  | none =>
    have h0 : xs.length = 0 := by
      rcases Nat.eq_zero_or_pos xs.length with h | h
      · exact h
      · obtain ⟨ad, h1, -⟩ := Kd.at_int hC 0 (Int.le_refl _) (by omega)
        cases h1
    rw [h0]
    exact modes_none W cap
  | some a =>
    obtain ⟨b, o, s⟩ := a
    obtain rfl : s = none := hA _ rfl
    refine modes_some W b o xs.length cap fun j hj => ?_
    obtain ⟨ad, h1, h2⟩ := Kd.at_int hC (j : Int) (by omega) (by omega)
    cases h1
    rw [Int.toNat_natCast, Addr.add_lit] at h2
    exact ⟨_, h2⟩
end Go.Eng
