/-
  NARROWER THAN 'FOR EVERY INPUT', by the rows' own cells (each row's printed sentence says how): TopicAsks: laid · TopicMakes: laid · TopicStars: laid · TopicLong: laid · TopicWords: laid.
  DERIVED. THE GIVEN ROWS OF THIS SEAT. 5 by the template 'for every input the law returns true; each argument reads behind the call as it read before'; 0 by the template 'total and deterministic' (their statements: YtjnplofopiohaaaDoorTotals.lean).
  GIVEN WITH THE SEED: the statements are not yours to turn. If you find one false, say at which input.
  Laid BY PROGRAM, IN A SANDBOX (cutbox-rows.mjs): the forced cells as the released guide's own fill.sh prints them over the translation 67845e134a9fb35c… (all of the seat's roots in one cut). By AI agents, Wed Nov 11 2026. No macro, syntax, notation, axiom, sorry.
-/
import Derived.Test.YtjnplofopiohaaaDoorChecked
import GoSem.PinnedTables
import GoSem.Claim
import GoSem.ClaimJoined
import GoSem.ClaimMapViews
import Derived.JoinedTies
import Derived.KernelRfl
namespace Go.Proofs.YtjnplofopiohaaaDoor
/- THE CELL 'sum', in the pinned program and in every row, IS THE sha256 OF THE DUMP (.gsa) THAT YtjnplofopiohaaaDoorProg.lean LOADS. Nothing in Lean hashes anything: it is a label: what it is worth is what the hold of that sum in a sandbox is worth. -/
noncomputable def Tryd.pinned : Pinned := { name := "ytjnplofopiohaaadoor", sum := "67845e134a9fb35c1378e28b3804aba3ea8144aca6e8e2c3683e653731fe2ae2", checked := Tryd.checked }
namespace Rows
def none {H : Type} : Left H := { results := [], args := [] }

/- WHAT THE LISTED PACKAGE-LEVEL VARIABLES READ AS WHEN THE CALL BEGINS. Each datum BY PROGRAM (the guide's laid-datum.mjs) off the statement by which the dump's own 'gosem.cut.vars' lays the variable. In a bare row this is a premise. The card (YtjnplofopiohaaaDoorCards.lean) ties it to the program's text. -/
def laid_unicode_utf8_acceptRanges {H : Type} : DataW H := .agg [.agg [.lit (.int .u8 128), .lit (.int .u8 191)], .agg [.lit (.int .u8 160), .lit (.int .u8 191)], .agg [.lit (.int .u8 128), .lit (.int .u8 159)], .agg [.lit (.int .u8 144), .lit (.int .u8 191)], .agg [.lit (.int .u8 128), .lit (.int .u8 143)], .agg [.lit (.int .u8 0), .lit (.int .u8 0)], .agg [.lit (.int .u8 0), .lit (.int .u8 0)], .agg [.lit (.int .u8 0), .lit (.int .u8 0)], .agg [.lit (.int .u8 0), .lit (.int .u8 0)], .agg [.lit (.int .u8 0), .lit (.int .u8 0)], .agg [.lit (.int .u8 0), .lit (.int .u8 0)], .agg [.lit (.int .u8 0), .lit (.int .u8 0)], .agg [.lit (.int .u8 0), .lit (.int .u8 0)], .agg [.lit (.int .u8 0), .lit (.int .u8 0)], .agg [.lit (.int .u8 0), .lit (.int .u8 0)], .agg [.lit (.int .u8 0), .lit (.int .u8 0)]]
/-- One of Go's own tables, pinned by name: the form's constant. -/
def laid_unicode_utf8_first : DataW Unit := Go.Pinned.utf8First

/-- 'carrefourlaw7.TopicAsks': WHATEVER THE INPUT: true; the input reads as it did. -/
def topicAsksSpec : ChangeSpec := { name := "topicAsks", fn := fun _ => fun
  | [d1, d2] => { results := [.lit (.bool true)], args := [d1, d2] }
  | _ => none }
def topicAsksRow : OpenClaim := { program := "ytjnplofopiohaaadoor", sum := "67845e134a9fb35c1378e28b3804aba3ea8144aca6e8e2c3683e653731fe2ae2", func := "carrefour/carrefourlaw7.TopicAsks", spec := "topicAsks", inPlace := ["internal/bytealg.CountString", "internal/bytealg.IndexByteString", "internal/bytealg.IndexString"], unfollowed := true, recurses := true, named := ["unicode/utf8.first", "unicode/utf8.acceptRanges", "internal/bytealg.MaxLen"], apart := false, laid := [("unicode/utf8.acceptRanges", laid_unicode_utf8_acceptRanges), ("unicode/utf8.first", laid_unicode_utf8_first)] }
def TopicAsksSaid : Prop := topicAsksRow.holds Tryd.pinned (OpenSpec.ofChange topicAsksSpec)

/-- ITS FALSE NEIGHBOUR: 'it returns false'. Refute it at one input. -/
def topicAsksWrong : ChangeSpec := { name := "topicAsks", fn := fun _ => fun
  | [d1, d2] => { results := [.lit (.bool false)], args := [d1, d2] }
  | _ => none }
def TopicAsksWrongFalsely : Prop := topicAsksRow.holds Tryd.pinned (OpenSpec.ofChange topicAsksWrong)

/-- 'carrefourlaw7.TopicMakes': WHATEVER THE INPUT: true; the input reads as it did. -/
def topicMakesSpec : ChangeSpec := { name := "topicMakes", fn := fun _ => fun
  | [d1, d2] => { results := [.lit (.bool true)], args := [d1, d2] }
  | _ => none }
def topicMakesRow : OpenClaim := { program := "ytjnplofopiohaaadoor", sum := "67845e134a9fb35c1378e28b3804aba3ea8144aca6e8e2c3683e653731fe2ae2", func := "carrefour/carrefourlaw7.TopicMakes", spec := "topicMakes", inPlace := ["internal/bytealg.CountString", "internal/bytealg.IndexByteString", "internal/bytealg.IndexString"], unfollowed := true, recurses := true, named := ["unicode/utf8.first", "unicode/utf8.acceptRanges", "internal/bytealg.MaxLen"], apart := false, laid := [("unicode/utf8.acceptRanges", laid_unicode_utf8_acceptRanges), ("unicode/utf8.first", laid_unicode_utf8_first)] }
def TopicMakesSaid : Prop := topicMakesRow.holds Tryd.pinned (OpenSpec.ofChange topicMakesSpec)

/-- ITS FALSE NEIGHBOUR: 'it returns false'. Refute it at one input. -/
def topicMakesWrong : ChangeSpec := { name := "topicMakes", fn := fun _ => fun
  | [d1, d2] => { results := [.lit (.bool false)], args := [d1, d2] }
  | _ => none }
def TopicMakesWrongFalsely : Prop := topicMakesRow.holds Tryd.pinned (OpenSpec.ofChange topicMakesWrong)

/-- 'carrefourlaw7.TopicStars': WHATEVER THE INPUT: true; the input reads as it did. -/
def topicStarsSpec : ChangeSpec := { name := "topicStars", fn := fun _ => fun
  | [d1, d2, d3] => { results := [.lit (.bool true)], args := [d1, d2, d3] }
  | _ => none }
def topicStarsRow : OpenClaim := { program := "ytjnplofopiohaaadoor", sum := "67845e134a9fb35c1378e28b3804aba3ea8144aca6e8e2c3683e653731fe2ae2", func := "carrefour/carrefourlaw7.TopicStars", spec := "topicStars", inPlace := ["internal/bytealg.CountString", "internal/bytealg.IndexByteString", "internal/bytealg.IndexString"], unfollowed := true, recurses := true, named := ["unicode/utf8.first", "unicode/utf8.acceptRanges", "internal/bytealg.MaxLen"], apart := false, laid := [("unicode/utf8.acceptRanges", laid_unicode_utf8_acceptRanges), ("unicode/utf8.first", laid_unicode_utf8_first)] }
def TopicStarsSaid : Prop := topicStarsRow.holds Tryd.pinned (OpenSpec.ofChange topicStarsSpec)

/-- ITS FALSE NEIGHBOUR: 'it returns false'. Refute it at one input. -/
def topicStarsWrong : ChangeSpec := { name := "topicStars", fn := fun _ => fun
  | [d1, d2, d3] => { results := [.lit (.bool false)], args := [d1, d2, d3] }
  | _ => none }
def TopicStarsWrongFalsely : Prop := topicStarsRow.holds Tryd.pinned (OpenSpec.ofChange topicStarsWrong)

/-- 'carrefourlaw7.TopicLong': WHATEVER THE INPUT: true; the input reads as it did. -/
def topicLongSpec : ChangeSpec := { name := "topicLong", fn := fun _ => fun
  | [d1, d2] => { results := [.lit (.bool true)], args := [d1, d2] }
  | _ => none }
def topicLongRow : OpenClaim := { program := "ytjnplofopiohaaadoor", sum := "67845e134a9fb35c1378e28b3804aba3ea8144aca6e8e2c3683e653731fe2ae2", func := "carrefour/carrefourlaw7.TopicLong", spec := "topicLong", inPlace := ["internal/bytealg.CountString", "internal/bytealg.IndexByteString", "internal/bytealg.IndexString"], unfollowed := true, recurses := true, named := ["unicode/utf8.first", "unicode/utf8.acceptRanges", "internal/bytealg.MaxLen"], apart := false, laid := [("unicode/utf8.acceptRanges", laid_unicode_utf8_acceptRanges), ("unicode/utf8.first", laid_unicode_utf8_first)] }
def TopicLongSaid : Prop := topicLongRow.holds Tryd.pinned (OpenSpec.ofChange topicLongSpec)

/-- ITS FALSE NEIGHBOUR: 'it returns false'. Refute it at one input. -/
def topicLongWrong : ChangeSpec := { name := "topicLong", fn := fun _ => fun
  | [d1, d2] => { results := [.lit (.bool false)], args := [d1, d2] }
  | _ => none }
def TopicLongWrongFalsely : Prop := topicLongRow.holds Tryd.pinned (OpenSpec.ofChange topicLongWrong)

/-- 'carrefourlaw7.TopicWords': WHATEVER THE INPUT: true; the input reads as it did. -/
def topicWordsSpec : ChangeSpec := { name := "topicWords", fn := fun _ => fun
  | [d] => { results := [.lit (.bool true)], args := [d] }
  | _ => none }
def topicWordsRow : OpenClaim := { program := "ytjnplofopiohaaadoor", sum := "67845e134a9fb35c1378e28b3804aba3ea8144aca6e8e2c3683e653731fe2ae2", func := "carrefour/carrefourlaw7.TopicWords", spec := "topicWords", inPlace := ["internal/bytealg.CountString", "internal/bytealg.IndexByteString", "internal/bytealg.IndexString"], unfollowed := true, recurses := true, named := ["unicode/utf8.first", "unicode/utf8.acceptRanges", "internal/bytealg.MaxLen"], apart := false, laid := [("unicode/utf8.acceptRanges", laid_unicode_utf8_acceptRanges), ("unicode/utf8.first", laid_unicode_utf8_first)] }
def TopicWordsSaid : Prop := topicWordsRow.holds Tryd.pinned (OpenSpec.ofChange topicWordsSpec)

/-- ITS FALSE NEIGHBOUR: 'it returns false'. Refute it at one input. -/
def topicWordsWrong : ChangeSpec := { name := "topicWords", fn := fun _ => fun
  | [d] => { results := [.lit (.bool false)], args := [d] }
  | _ => none }
def TopicWordsWrongFalsely : Prop := topicWordsRow.holds Tryd.pinned (OpenSpec.ofChange topicWordsWrong)

/- THE SECOND FORM. 'bulk': how many values and letters a reading holds, each counted each time it is reached (what is shared counts as often as it is met; a slice's spare places count too). A statement '..UptoSaid' is the law's where the arguments, and the package variables that the reading takes, are together of bulk at most 1048576: NARROWER than '..Said'. Prove '..Said' where nothing that the law and all that it calls make is longer than what came in: it says more and counts as full. Else prove '..UptoSaid'. A law counts once. -/
mutual
def uptoBulk {H : Type} : DataW H → Nat
  | .lit (.string bytes) => bytes.length + 1
  | .lit _ => 1
  | .nil => 1
  | .ptr d => uptoBulk d + 1
  | .slice elems spare => uptoBulkAll elems + uptoBulkAll spare + 1
  | .agg parts => uptoBulkAll parts + 1
  | .iface _ d => uptoBulk d + 1
  | .map entries => uptoBulkEntries entries + 1
  | .held _ => 1
def uptoBulkAll {H : Type} : List (DataW H) → Nat
  | [] => 0
  | d :: r => uptoBulk d + uptoBulkAll r
def uptoBulkEntries {H : Type} : List (Lit × DataW H) → Nat
  | [] => 0
  | x :: r => uptoBulkEntry x + uptoBulkEntries r
def uptoBulkEntry {H : Type} : Lit × DataW H → Nat
  | (.string bytes, d) => bytes.length + uptoBulk d + 1
  | (_, d) => uptoBulk d + 1
 end
def uptoSmall : (H : Type) → List (DataW H) → Bool := fun _ ds => decide (uptoBulkAll ds ≤ 1048576)
def OpenSpec.upto (s : _root_.Go.ChangeSpec) : _root_.Go.OpenSpec := { _root_.Go.OpenSpec.ofChange s with cond := some uptoSmall }

/-- 'carrefourlaw7.TopicAsks', WHERE WHAT IT READS IS OF BULK AT MOST 1048576: true; the input reads as it did. -/
def topicAsksUptoRow : OpenClaim := { program := "ytjnplofopiohaaadoor", sum := "67845e134a9fb35c1378e28b3804aba3ea8144aca6e8e2c3683e653731fe2ae2", func := "carrefour/carrefourlaw7.TopicAsks", spec := "topicAsks", inPlace := ["internal/bytealg.CountString", "internal/bytealg.IndexByteString", "internal/bytealg.IndexString"], unfollowed := true, recurses := true, named := ["unicode/utf8.first", "unicode/utf8.acceptRanges", "internal/bytealg.MaxLen"], apart := false, laid := [("unicode/utf8.acceptRanges", laid_unicode_utf8_acceptRanges), ("unicode/utf8.first", laid_unicode_utf8_first)], narrowed := true }
def TopicAsksUptoSaid : Prop := topicAsksUptoRow.holds Tryd.pinned (OpenSpec.upto topicAsksSpec)

/-- 'carrefourlaw7.TopicMakes', WHERE WHAT IT READS IS OF BULK AT MOST 1048576: true; the input reads as it did. -/
def topicMakesUptoRow : OpenClaim := { program := "ytjnplofopiohaaadoor", sum := "67845e134a9fb35c1378e28b3804aba3ea8144aca6e8e2c3683e653731fe2ae2", func := "carrefour/carrefourlaw7.TopicMakes", spec := "topicMakes", inPlace := ["internal/bytealg.CountString", "internal/bytealg.IndexByteString", "internal/bytealg.IndexString"], unfollowed := true, recurses := true, named := ["unicode/utf8.first", "unicode/utf8.acceptRanges", "internal/bytealg.MaxLen"], apart := false, laid := [("unicode/utf8.acceptRanges", laid_unicode_utf8_acceptRanges), ("unicode/utf8.first", laid_unicode_utf8_first)], narrowed := true }
def TopicMakesUptoSaid : Prop := topicMakesUptoRow.holds Tryd.pinned (OpenSpec.upto topicMakesSpec)

/-- 'carrefourlaw7.TopicStars', WHERE WHAT IT READS IS OF BULK AT MOST 1048576: true; the input reads as it did. -/
def topicStarsUptoRow : OpenClaim := { program := "ytjnplofopiohaaadoor", sum := "67845e134a9fb35c1378e28b3804aba3ea8144aca6e8e2c3683e653731fe2ae2", func := "carrefour/carrefourlaw7.TopicStars", spec := "topicStars", inPlace := ["internal/bytealg.CountString", "internal/bytealg.IndexByteString", "internal/bytealg.IndexString"], unfollowed := true, recurses := true, named := ["unicode/utf8.first", "unicode/utf8.acceptRanges", "internal/bytealg.MaxLen"], apart := false, laid := [("unicode/utf8.acceptRanges", laid_unicode_utf8_acceptRanges), ("unicode/utf8.first", laid_unicode_utf8_first)], narrowed := true }
def TopicStarsUptoSaid : Prop := topicStarsUptoRow.holds Tryd.pinned (OpenSpec.upto topicStarsSpec)

/-- 'carrefourlaw7.TopicLong', WHERE WHAT IT READS IS OF BULK AT MOST 1048576: true; the input reads as it did. -/
def topicLongUptoRow : OpenClaim := { program := "ytjnplofopiohaaadoor", sum := "67845e134a9fb35c1378e28b3804aba3ea8144aca6e8e2c3683e653731fe2ae2", func := "carrefour/carrefourlaw7.TopicLong", spec := "topicLong", inPlace := ["internal/bytealg.CountString", "internal/bytealg.IndexByteString", "internal/bytealg.IndexString"], unfollowed := true, recurses := true, named := ["unicode/utf8.first", "unicode/utf8.acceptRanges", "internal/bytealg.MaxLen"], apart := false, laid := [("unicode/utf8.acceptRanges", laid_unicode_utf8_acceptRanges), ("unicode/utf8.first", laid_unicode_utf8_first)], narrowed := true }
def TopicLongUptoSaid : Prop := topicLongUptoRow.holds Tryd.pinned (OpenSpec.upto topicLongSpec)

/-- 'carrefourlaw7.TopicWords', WHERE WHAT IT READS IS OF BULK AT MOST 1048576: true; the input reads as it did. -/
def topicWordsUptoRow : OpenClaim := { program := "ytjnplofopiohaaadoor", sum := "67845e134a9fb35c1378e28b3804aba3ea8144aca6e8e2c3683e653731fe2ae2", func := "carrefour/carrefourlaw7.TopicWords", spec := "topicWords", inPlace := ["internal/bytealg.CountString", "internal/bytealg.IndexByteString", "internal/bytealg.IndexString"], unfollowed := true, recurses := true, named := ["unicode/utf8.first", "unicode/utf8.acceptRanges", "internal/bytealg.MaxLen"], apart := false, laid := [("unicode/utf8.acceptRanges", laid_unicode_utf8_acceptRanges), ("unicode/utf8.first", laid_unicode_utf8_first)], narrowed := true }
def TopicWordsUptoSaid : Prop := topicWordsUptoRow.holds Tryd.pinned (OpenSpec.upto topicWordsSpec)

end Rows
end Go.Proofs.YtjnplofopiohaaaDoor
