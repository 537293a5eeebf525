/-
  DERIVED. GIVEN WITH THE SEED: THE CARDS: each row of YtfcebfbdodeecaaGreatDoorRows.lean that lists a variable, with what it lists TIED to the program's text (the seventh form; the later family's looks); each row that meets fmt, with fmt's text TOLD by the authors' own Lean function (tested against real Go, not proved from fmt's source: count such statements apart). THE CARD IS WHAT COUNTS. Prove the row's statement (the work); the ties are given (YtfcebfbdodeecaaGreatDoorTie.lean); close each card by the builder's one call (the guide's Derived/Test/ToyasCard.lean, 'card_holds'). Laid BY PROGRAM, IN A SANDBOX (cutbox-door.mjs). By AI agents, Wed Nov 11 2026. No macro, syntax, notation, axiom, sorry.
-/
import Derived.Test.YtfcebfbdodeecaaGreatDoorRows
import GoSem.ClaimSeven
namespace Go.Proofs.YtfcebfbdodeecaaGreatDoor
namespace Rows

/-- THE TIED CARD OF 'carrefourlaw16.ChannelModes'. -/
def channelModesCard : Claim7 := { stood := { row := channelModesRow, standIns := [], harness := (true, "2ab875a2fd08b6f7ea02cf388b90dec84cf7ff5d4c4279a83a84d1bcef3bf433"), looks := false }, kinds := [], alts := [], laidByText := true, laidKinds := [.data, .data, .data, .data, .pinned], laidTests := true, laidLooks := .later }
def ChannelModesCardSaid : Prop := Claim7.holds Tryz.pinned (.plain (OpenSpec.ofChange channelModesSpec)) channelModesCard

/-- THE TIED CARD OF 'carrefourlaw16.ChannelMandatory'. -/
def channelMandatoryCard : Claim7 := { stood := { row := channelMandatoryRow, standIns := [], harness := (true, "2ab875a2fd08b6f7ea02cf388b90dec84cf7ff5d4c4279a83a84d1bcef3bf433"), looks := false }, kinds := [], alts := [], laidByText := true, laidKinds := [.data, .data, .data, .data, .pinned], laidTests := true, laidLooks := .later }
def ChannelMandatoryCardSaid : Prop := Claim7.holds Tryz.pinned (.plain (OpenSpec.ofChange channelMandatorySpec)) channelMandatoryCard

/-- THE TIED CARD OF 'carrefourlaw16.ChannelQueues'. -/
def channelQueuesCard : Claim7 := { stood := { row := channelQueuesRow, standIns := [], harness := (true, "2ab875a2fd08b6f7ea02cf388b90dec84cf7ff5d4c4279a83a84d1bcef3bf433"), looks := false }, kinds := [], alts := [], laidByText := true, laidKinds := [.data, .data, .data, .data, .pinned], laidTests := true, laidLooks := .later }
def ChannelQueuesCardSaid : Prop := Claim7.holds Tryz.pinned (.plain (OpenSpec.ofChange channelQueuesSpec)) channelQueuesCard

/-- THE TIED CARD OF 'carrefourlaw16.ChannelRoutes'. -/
def channelRoutesCard : Claim7 := { stood := { row := channelRoutesRow, standIns := [], harness := (true, "2ab875a2fd08b6f7ea02cf388b90dec84cf7ff5d4c4279a83a84d1bcef3bf433"), looks := false }, kinds := [], alts := [], laidByText := true, laidKinds := [.data, .data, .data, .data, .pinned], laidTests := true, laidLooks := .later }
def ChannelRoutesCardSaid : Prop := Claim7.holds Tryz.pinned (.plain (OpenSpec.ofChange channelRoutesSpec)) channelRoutesCard

/-- THE TIED CARD OF 'carrefourlaw16.ChannelPrefetch'. -/
def channelPrefetchCard : Claim7 := { stood := { row := channelPrefetchRow, standIns := [], harness := (true, "2ab875a2fd08b6f7ea02cf388b90dec84cf7ff5d4c4279a83a84d1bcef3bf433"), looks := false }, kinds := [], alts := [], laidByText := true, laidKinds := [.data, .data, .data, .data, .pinned], laidTests := true, laidLooks := .later }
def ChannelPrefetchCardSaid : Prop := Claim7.holds Tryz.pinned (.plain (OpenSpec.ofChange channelPrefetchSpec)) channelPrefetchCard

/-- THE SECOND FORM's CARD OF 'carrefourlaw16.ChannelModes'. -/
def channelModesUptoCard : Claim7 := { stood := { row := channelModesUptoRow, standIns := [], harness := (true, "2ab875a2fd08b6f7ea02cf388b90dec84cf7ff5d4c4279a83a84d1bcef3bf433"), looks := false }, kinds := [], alts := [], laidByText := true, laidKinds := [.data, .data, .data, .data, .pinned], laidTests := true, laidLooks := .later }
def ChannelModesUptoCardSaid : Prop := Claim7.holds Tryz.pinned (.plain (OpenSpec.upto channelModesSpec)) channelModesUptoCard

/-- THE SECOND FORM's CARD OF 'carrefourlaw16.ChannelMandatory'. -/
def channelMandatoryUptoCard : Claim7 := { stood := { row := channelMandatoryUptoRow, standIns := [], harness := (true, "2ab875a2fd08b6f7ea02cf388b90dec84cf7ff5d4c4279a83a84d1bcef3bf433"), looks := false }, kinds := [], alts := [], laidByText := true, laidKinds := [.data, .data, .data, .data, .pinned], laidTests := true, laidLooks := .later }
def ChannelMandatoryUptoCardSaid : Prop := Claim7.holds Tryz.pinned (.plain (OpenSpec.upto channelMandatorySpec)) channelMandatoryUptoCard

/-- THE SECOND FORM's CARD OF 'carrefourlaw16.ChannelQueues'. -/
def channelQueuesUptoCard : Claim7 := { stood := { row := channelQueuesUptoRow, standIns := [], harness := (true, "2ab875a2fd08b6f7ea02cf388b90dec84cf7ff5d4c4279a83a84d1bcef3bf433"), looks := false }, kinds := [], alts := [], laidByText := true, laidKinds := [.data, .data, .data, .data, .pinned], laidTests := true, laidLooks := .later }
def ChannelQueuesUptoCardSaid : Prop := Claim7.holds Tryz.pinned (.plain (OpenSpec.upto channelQueuesSpec)) channelQueuesUptoCard

/-- THE SECOND FORM's CARD OF 'carrefourlaw16.ChannelRoutes'. -/
def channelRoutesUptoCard : Claim7 := { stood := { row := channelRoutesUptoRow, standIns := [], harness := (true, "2ab875a2fd08b6f7ea02cf388b90dec84cf7ff5d4c4279a83a84d1bcef3bf433"), looks := false }, kinds := [], alts := [], laidByText := true, laidKinds := [.data, .data, .data, .data, .pinned], laidTests := true, laidLooks := .later }
def ChannelRoutesUptoCardSaid : Prop := Claim7.holds Tryz.pinned (.plain (OpenSpec.upto channelRoutesSpec)) channelRoutesUptoCard

/-- THE SECOND FORM's CARD OF 'carrefourlaw16.ChannelPrefetch'. -/
def channelPrefetchUptoCard : Claim7 := { stood := { row := channelPrefetchUptoRow, standIns := [], harness := (true, "2ab875a2fd08b6f7ea02cf388b90dec84cf7ff5d4c4279a83a84d1bcef3bf433"), looks := false }, kinds := [], alts := [], laidByText := true, laidKinds := [.data, .data, .data, .data, .pinned], laidTests := true, laidLooks := .later }
def ChannelPrefetchUptoCardSaid : Prop := Claim7.holds Tryz.pinned (.plain (OpenSpec.upto channelPrefetchSpec)) channelPrefetchUptoCard
end Rows
end Go.Proofs.YtfcebfbdodeecaaGreatDoor
