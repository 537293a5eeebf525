/-
  DERIVED. GIVEN WITH THE SEED: THE CARDS: each row of YtpmalfabeajepaaDoorRows.lean that lists a variable, with what it lists TIED to the program's text (the seventh form; the later family's looks); each row that meets fmt, with fmt's text TOLD by the authors' own Lean function (tested against real Go, not proved from fmt's source: count such statements apart). THE CARD IS WHAT COUNTS. Prove the row's statement (the work); the ties are given (YtpmalfabeajepaaDoorTie.lean); close each card by the builder's one call (the guide's Derived/Test/ToyasCard.lean, 'card_holds'). Laid BY PROGRAM, IN A SANDBOX (cutbox-door.mjs). By AI agents, Wed Nov 11 2026. No macro, syntax, notation, axiom, sorry.
-/
import Derived.Test.YtpmalfabeajepaaDoorRows
import GoSem.ClaimSeven
namespace Go.Proofs.YtpmalfabeajepaaDoor
namespace Rows

/-- THE TIED CARD OF 'carrefourlaw8.RouteKinds'. -/
def routeKindsCard : Claim7 := { stood := { row := routeKindsRow, standIns := [], harness := (true, "be0f73a1b70c62f8b7864db1635978c3b11836eb37e6e6e41bd51bdfd2e3f4d6"), looks := false }, kinds := [], alts := [], laidByText := true, laidKinds := [.data, .data, .data, .data, .pinned], laidTests := true, laidLooks := .later }
def RouteKindsCardSaid : Prop := Claim7.holds Tryd.pinned (.plain (OpenSpec.ofChange routeKindsSpec)) routeKindsCard

/-- THE TIED CARD OF 'carrefourlaw8.RouteHash'. -/
def routeHashCard : Claim7 := { stood := { row := routeHashRow, standIns := [], harness := (true, "be0f73a1b70c62f8b7864db1635978c3b11836eb37e6e6e41bd51bdfd2e3f4d6"), looks := false }, kinds := [], alts := [], laidByText := true, laidKinds := [.data, .data, .data, .data, .pinned], laidTests := true, laidLooks := .later }
def RouteHashCardSaid : Prop := Claim7.holds Tryd.pinned (.plain (OpenSpec.ofChange routeHashSpec)) routeHashCard

/-- THE TIED CARD OF 'carrefourlaw8.RouteAgain'. -/
def routeAgainCard : Claim7 := { stood := { row := routeAgainRow, standIns := [], harness := (true, "be0f73a1b70c62f8b7864db1635978c3b11836eb37e6e6e41bd51bdfd2e3f4d6"), looks := false }, kinds := [], alts := [], laidByText := true, laidKinds := [.data, .data, .data, .data, .pinned], laidTests := true, laidLooks := .later }
def RouteAgainCardSaid : Prop := Claim7.holds Tryd.pinned (.plain (OpenSpec.ofChange routeAgainSpec)) routeAgainCard

/-- THE TIED CARD OF 'carrefourlaw8.RouteBounds'. -/
def routeBoundsCard : Claim7 := { stood := { row := routeBoundsRow, standIns := [], harness := (true, "be0f73a1b70c62f8b7864db1635978c3b11836eb37e6e6e41bd51bdfd2e3f4d6"), looks := false }, kinds := [], alts := [], laidByText := true, laidKinds := [.data, .data, .data, .data, .pinned], laidTests := true, laidLooks := .later }
def RouteBoundsCardSaid : Prop := Claim7.holds Tryd.pinned (.plain (OpenSpec.ofChange routeBoundsSpec)) routeBoundsCard

/-- THE SECOND FORM's CARD OF 'carrefourlaw8.RouteKinds'. -/
def routeKindsUptoCard : Claim7 := { stood := { row := routeKindsUptoRow, standIns := [], harness := (true, "be0f73a1b70c62f8b7864db1635978c3b11836eb37e6e6e41bd51bdfd2e3f4d6"), looks := false }, kinds := [], alts := [], laidByText := true, laidKinds := [.data, .data, .data, .data, .pinned], laidTests := true, laidLooks := .later }
def RouteKindsUptoCardSaid : Prop := Claim7.holds Tryd.pinned (.plain (OpenSpec.upto routeKindsSpec)) routeKindsUptoCard

/-- THE SECOND FORM's CARD OF 'carrefourlaw8.RouteHash'. -/
def routeHashUptoCard : Claim7 := { stood := { row := routeHashUptoRow, standIns := [], harness := (true, "be0f73a1b70c62f8b7864db1635978c3b11836eb37e6e6e41bd51bdfd2e3f4d6"), looks := false }, kinds := [], alts := [], laidByText := true, laidKinds := [.data, .data, .data, .data, .pinned], laidTests := true, laidLooks := .later }
def RouteHashUptoCardSaid : Prop := Claim7.holds Tryd.pinned (.plain (OpenSpec.upto routeHashSpec)) routeHashUptoCard

/-- THE SECOND FORM's CARD OF 'carrefourlaw8.RouteAgain'. -/
def routeAgainUptoCard : Claim7 := { stood := { row := routeAgainUptoRow, standIns := [], harness := (true, "be0f73a1b70c62f8b7864db1635978c3b11836eb37e6e6e41bd51bdfd2e3f4d6"), looks := false }, kinds := [], alts := [], laidByText := true, laidKinds := [.data, .data, .data, .data, .pinned], laidTests := true, laidLooks := .later }
def RouteAgainUptoCardSaid : Prop := Claim7.holds Tryd.pinned (.plain (OpenSpec.upto routeAgainSpec)) routeAgainUptoCard

/-- THE SECOND FORM's CARD OF 'carrefourlaw8.RouteBounds'. -/
def routeBoundsUptoCard : Claim7 := { stood := { row := routeBoundsUptoRow, standIns := [], harness := (true, "be0f73a1b70c62f8b7864db1635978c3b11836eb37e6e6e41bd51bdfd2e3f4d6"), looks := false }, kinds := [], alts := [], laidByText := true, laidKinds := [.data, .data, .data, .data, .pinned], laidTests := true, laidLooks := .later }
def RouteBoundsUptoCardSaid : Prop := Claim7.holds Tryd.pinned (.plain (OpenSpec.upto routeBoundsSpec)) routeBoundsUptoCard
end Rows
end Go.Proofs.YtpmalfabeajepaaDoor
