/- Exchanges of the three kinds find their queues, each once: for every bindings, kinds, keys. No conditions. -/
import Derived.Test.YtpmalfabeajepaaDoorPGdx7
import Derived.Test.YtpmalfabeajepaaDoorKq
namespace Go.Proofs.YtpmalfabeajepaaDoor.Pure
open Go.RowKit Go.Proofs.YtpmalfabeajepaaDoor.PGd Go.Proofs.YtpmalfabeajepaaDoor.PGa
theorem RouteKinds : RK.Pure := fun l0 a1 a2 h _ _ => Kq.kinds_hold l0 a1 a2 h.1
end Go.Proofs.YtpmalfabeajepaaDoor.Pure
