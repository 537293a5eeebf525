/- Contracts by hand: two functions of Go's library, by the shelf's and by CA, in the form that the print takes.
-- HAND strings.Split strings_Split
-- HAND strings.ContainsAny strings_ContainsSigns
-/
import Derived.Test.YtjnplofopiohaaaDoorH
import Derived.Test.YtjnplofopiohaaaDoorCA
namespace Go.Proofs.YtjnplofopiohaaaDoorH
open Go.RowKit Go.Proofs.YtjnplofopiohaaaDoorW.PrintWords Go.Proofs.YtjnplofopiohaaaDoorW.PrintLast Go.Proofs.YtjnplofopiohaaaDoorW.PrintMore
def strings_ContainsSigns.f (a0 a1 : ByteArray) : Option Bool := if a0.size < 4294967281 ∧ a1.data.toList = [42, 35] then some (Lib.containsAny a0.data.toList [42, 35]) else none
theorem strings_ContainsSigns.calls (a0 a1 : ByteArray) (r : Bool) (w : World) (_ : Gl w) (h : strings_ContainsSigns.f a0 a1 = some r) :
    Calls Tryd.prog 20 #[.string a0, .string a1] w fun e w' => e = .returned (.bool r) ∧ Below w.heap.size w w' := by
  unfold strings_ContainsSigns.f at h
  by_cases hc : a0.size < 4294967281 ∧ a1.data.toList = [42, 35]
  · rw [if_pos hc] at h
    obtain rfl := Option.some.inj h
    have e : a1 = ⟨#[42, 35]⟩ := by
      cases a1
      congr 1
      exact Array.toList_inj.1 hc.2
    rw [e]
    exact Go.Proofs.YtjnplofopiohaaaDoorCA.contains_any a0 w hc.1
  · rw [if_neg hc] at h
    cases h
end Go.Proofs.YtjnplofopiohaaaDoorH
