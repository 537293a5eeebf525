/-
  DERIVED. GIVEN WITH THE SEED: THE CARDS: each row of YtjnplofopiohaaaDoorRows.lean that lists a variable, with what it lists TIED to the program's text (the seventh form; the later family's looks); each row that meets fmt, with fmt's text TOLD by the authors' own Lean function (tested against real Go, not proved from fmt's source: count such statements apart). THE CARD IS WHAT COUNTS. Prove the row's statement (the work); the ties are given (YtjnplofopiohaaaDoorTie.lean); close each card by the builder's one call (the guide's Derived/Test/ToyasCard.lean, 'card_holds'). Laid BY PROGRAM, IN A SANDBOX (cutbox-door.mjs). By AI agents, Wed Nov 11 2026. No macro, syntax, notation, axiom, sorry.
-/
import Derived.Test.YtjnplofopiohaaaDoorRows
import GoSem.ClaimSeven
namespace Go.Proofs.YtjnplofopiohaaaDoor
namespace Rows

/-- THE TIED CARD OF 'carrefourlaw7.TopicAsks'. -/
def topicAsksCard : Claim7 := { stood := { row := topicAsksRow, standIns := [], harness := (true, "34e7c3ca2f35ea350ccabaf357c69387115abcea0607b9ab2db2973804fa1050"), looks := false }, kinds := [], alts := [], laidByText := true, laidKinds := [.data, .pinned], laidTests := true, laidLooks := .later }
def TopicAsksCardSaid : Prop := Claim7.holds Tryd.pinned (.plain (OpenSpec.ofChange topicAsksSpec)) topicAsksCard

/-- THE TIED CARD OF 'carrefourlaw7.TopicMakes'. -/
def topicMakesCard : Claim7 := { stood := { row := topicMakesRow, standIns := [], harness := (true, "34e7c3ca2f35ea350ccabaf357c69387115abcea0607b9ab2db2973804fa1050"), looks := false }, kinds := [], alts := [], laidByText := true, laidKinds := [.data, .pinned], laidTests := true, laidLooks := .later }
def TopicMakesCardSaid : Prop := Claim7.holds Tryd.pinned (.plain (OpenSpec.ofChange topicMakesSpec)) topicMakesCard

/-- THE TIED CARD OF 'carrefourlaw7.TopicStars'. -/
def topicStarsCard : Claim7 := { stood := { row := topicStarsRow, standIns := [], harness := (true, "34e7c3ca2f35ea350ccabaf357c69387115abcea0607b9ab2db2973804fa1050"), looks := false }, kinds := [], alts := [], laidByText := true, laidKinds := [.data, .pinned], laidTests := true, laidLooks := .later }
def TopicStarsCardSaid : Prop := Claim7.holds Tryd.pinned (.plain (OpenSpec.ofChange topicStarsSpec)) topicStarsCard

/-- THE TIED CARD OF 'carrefourlaw7.TopicLong'. -/
def topicLongCard : Claim7 := { stood := { row := topicLongRow, standIns := [], harness := (true, "34e7c3ca2f35ea350ccabaf357c69387115abcea0607b9ab2db2973804fa1050"), looks := false }, kinds := [], alts := [], laidByText := true, laidKinds := [.data, .pinned], laidTests := true, laidLooks := .later }
def TopicLongCardSaid : Prop := Claim7.holds Tryd.pinned (.plain (OpenSpec.ofChange topicLongSpec)) topicLongCard

/-- THE TIED CARD OF 'carrefourlaw7.TopicWords'. -/
def topicWordsCard : Claim7 := { stood := { row := topicWordsRow, standIns := [], harness := (true, "34e7c3ca2f35ea350ccabaf357c69387115abcea0607b9ab2db2973804fa1050"), looks := false }, kinds := [], alts := [], laidByText := true, laidKinds := [.data, .pinned], laidTests := true, laidLooks := .later }
def TopicWordsCardSaid : Prop := Claim7.holds Tryd.pinned (.plain (OpenSpec.ofChange topicWordsSpec)) topicWordsCard

/-- THE SECOND FORM's CARD OF 'carrefourlaw7.TopicAsks'. -/
def topicAsksUptoCard : Claim7 := { stood := { row := topicAsksUptoRow, standIns := [], harness := (true, "34e7c3ca2f35ea350ccabaf357c69387115abcea0607b9ab2db2973804fa1050"), looks := false }, kinds := [], alts := [], laidByText := true, laidKinds := [.data, .pinned], laidTests := true, laidLooks := .later }
def TopicAsksUptoCardSaid : Prop := Claim7.holds Tryd.pinned (.plain (OpenSpec.upto topicAsksSpec)) topicAsksUptoCard

/-- THE SECOND FORM's CARD OF 'carrefourlaw7.TopicMakes'. -/
def topicMakesUptoCard : Claim7 := { stood := { row := topicMakesUptoRow, standIns := [], harness := (true, "34e7c3ca2f35ea350ccabaf357c69387115abcea0607b9ab2db2973804fa1050"), looks := false }, kinds := [], alts := [], laidByText := true, laidKinds := [.data, .pinned], laidTests := true, laidLooks := .later }
def TopicMakesUptoCardSaid : Prop := Claim7.holds Tryd.pinned (.plain (OpenSpec.upto topicMakesSpec)) topicMakesUptoCard

/-- THE SECOND FORM's CARD OF 'carrefourlaw7.TopicStars'. -/
def topicStarsUptoCard : Claim7 := { stood := { row := topicStarsUptoRow, standIns := [], harness := (true, "34e7c3ca2f35ea350ccabaf357c69387115abcea0607b9ab2db2973804fa1050"), looks := false }, kinds := [], alts := [], laidByText := true, laidKinds := [.data, .pinned], laidTests := true, laidLooks := .later }
def TopicStarsUptoCardSaid : Prop := Claim7.holds Tryd.pinned (.plain (OpenSpec.upto topicStarsSpec)) topicStarsUptoCard

/-- THE SECOND FORM's CARD OF 'carrefourlaw7.TopicLong'. -/
def topicLongUptoCard : Claim7 := { stood := { row := topicLongUptoRow, standIns := [], harness := (true, "34e7c3ca2f35ea350ccabaf357c69387115abcea0607b9ab2db2973804fa1050"), looks := false }, kinds := [], alts := [], laidByText := true, laidKinds := [.data, .pinned], laidTests := true, laidLooks := .later }
def TopicLongUptoCardSaid : Prop := Claim7.holds Tryd.pinned (.plain (OpenSpec.upto topicLongSpec)) topicLongUptoCard

/-- THE SECOND FORM's CARD OF 'carrefourlaw7.TopicWords'. -/
def topicWordsUptoCard : Claim7 := { stood := { row := topicWordsUptoRow, standIns := [], harness := (true, "34e7c3ca2f35ea350ccabaf357c69387115abcea0607b9ab2db2973804fa1050"), looks := false }, kinds := [], alts := [], laidByText := true, laidKinds := [.data, .pinned], laidTests := true, laidLooks := .later }
def TopicWordsUptoCardSaid : Prop := Claim7.holds Tryd.pinned (.plain (OpenSpec.upto topicWordsSpec)) topicWordsUptoCard
end Rows
end Go.Proofs.YtjnplofopiohaaaDoor
