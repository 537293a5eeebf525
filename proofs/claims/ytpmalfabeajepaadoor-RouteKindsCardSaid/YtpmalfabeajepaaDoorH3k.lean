/-
-- HAND carrefour/route.Find route_Find
-- HAND slices.Clone[[]carrefour/api.Exchange,carrefour/api.Exchange] slices_CloneX
-- HAND slices.Clone[[]carrefour/api.Binding,carrefour/api.Binding] slices_CloneB
-- HAND strconv.Itoa strconv_Itoa
-- HAND carrefour/topic.May topic_May
-- HAND carrefour/topic.Match topic_Match
-- HAND carrefour/route.May route_May
-- HAND carrefour/route.hashed route_hashed
-- HAND carrefour/carrefourlaw8.told law8_told
  Find, Clone, Itoa, May, topics as the printed proofs call them; told.
  Conditions: none.
-/
import Derived.Test.YtpmalfabeajepaaDoorFtk
namespace Go.Proofs.YtpmalfabeajepaaDoorH
open Go.RowKit Go.Proofs.YtpmalfabeajepaaDoorW.PrintWords Go.Proofs.YtpmalfabeajepaaDoorW.PrintLast Go.Proofs.YtpmalfabeajepaaDoor.PGa Go.Proofs.YtpmalfabeajepaaDoor.Rt
set_option linter.unusedVariables false
def law8_told.f : Option Bool := some true
theorem law8_told.calls (r : Bool) (w : World) (hgl : Gl w) (h : law8_told.f = some r) :
    Calls Tryd.prog 9 #[] w fun e w' => e = .returned (.bool r) ∧ Below w.heap.size w w' := by
  obtain rfl := Option.some.inj h
  exact Told_is w hgl
end Go.Proofs.YtpmalfabeajepaaDoorH
