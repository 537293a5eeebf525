/-
  No cell of these rows narrows 'for every input' (looked for: loops, veiled, ifaces, maps, wideKeys, modest, calm, conditions, laid).
  DERIVED. THE GIVEN ROWS OF THIS SEAT. 7 by the template 'for every input the law returns true; each argument reads behind the call as it read before'; 0 by the template 'total and deterministic' (their statements: YtnnlmbmgaajmhaaTotals.lean).
  GIVEN WITH THE SEED: the statements are not yours to turn. If you find one false, say at which input.
  Laid BY PROGRAM, IN A SANDBOX (cutbox-rows.mjs): the forced cells as the released guide's own fill.sh prints them over the translation 5f010473cef8f989… (all of the seat's roots in one cut). By AI agents, Wed Nov 11 2026. No macro, syntax, notation, axiom, sorry.
-/
import Derived.Test.YtnnlmbmgaajmhaaChecked
import GoSem.Claim
import GoSem.ClaimJoined
import GoSem.ClaimMapViews
import Derived.JoinedTies
import Derived.KernelRfl
namespace Go.Proofs.Ytnnlmbmgaajmhaa
/- THE CELL 'sum', in the pinned program and in every row, IS THE sha256 OF THE DUMP (.gsa) THAT YtnnlmbmgaajmhaaProg.lean LOADS. Nothing in Lean hashes anything: it is a label: what it is worth is what the hold of that sum in a sandbox is worth. -/
noncomputable def Try.pinned : Pinned := { name := "ytnnlmbmgaajmhaa", sum := "5f010473cef8f989b7e5b9b9ab1450a41873664f879a6ebc81d7543602f10884", checked := Try.checked }
namespace Rows
def none {H : Type} : Left H := { results := [], args := [] }

/-- 'carrefourlaw11.SegAsks': WHATEVER THE INPUT: true; the input reads as it did. -/
def segAsksSpec : ChangeSpec := { name := "segAsks", fn := fun _ => fun
  | [d1, d2] => { results := [.lit (.bool true)], args := [d1, d2] }
  | _ => none }
def segAsksRow : OpenClaim := { program := "ytnnlmbmgaajmhaa", sum := "5f010473cef8f989b7e5b9b9ab1450a41873664f879a6ebc81d7543602f10884", func := "carrefour/carrefourlaw11.SegAsks", spec := "segAsks", apart := false }
def SegAsksSaid : Prop := segAsksRow.holds Try.pinned (OpenSpec.ofChange segAsksSpec)

/-- ITS FALSE NEIGHBOUR: 'it returns false'. Refute it at one input. -/
def segAsksWrong : ChangeSpec := { name := "segAsks", fn := fun _ => fun
  | [d1, d2] => { results := [.lit (.bool false)], args := [d1, d2] }
  | _ => none }
def SegAsksWrongFalsely : Prop := segAsksRow.holds Try.pinned (OpenSpec.ofChange segAsksWrong)

/-- 'carrefourlaw11.SegKeeps': WHATEVER THE INPUT: true; the input reads as it did. -/
def segKeepsSpec : ChangeSpec := { name := "segKeeps", fn := fun _ => fun
  | [d1, d2, d3] => { results := [.lit (.bool true)], args := [d1, d2, d3] }
  | _ => none }
def segKeepsRow : OpenClaim := { program := "ytnnlmbmgaajmhaa", sum := "5f010473cef8f989b7e5b9b9ab1450a41873664f879a6ebc81d7543602f10884", func := "carrefour/carrefourlaw11.SegKeeps", spec := "segKeeps", apart := false }
def SegKeepsSaid : Prop := segKeepsRow.holds Try.pinned (OpenSpec.ofChange segKeepsSpec)

/-- ITS FALSE NEIGHBOUR: 'it returns false'. Refute it at one input. -/
def segKeepsWrong : ChangeSpec := { name := "segKeeps", fn := fun _ => fun
  | [d1, d2, d3] => { results := [.lit (.bool false)], args := [d1, d2, d3] }
  | _ => none }
def SegKeepsWrongFalsely : Prop := segKeepsRow.holds Try.pinned (OpenSpec.ofChange segKeepsWrong)

/-- 'carrefourlaw11.SegSums': WHATEVER THE INPUT: true; the input reads as it did. -/
def segSumsSpec : ChangeSpec := { name := "segSums", fn := fun _ => fun
  | [d1, d2, d3] => { results := [.lit (.bool true)], args := [d1, d2, d3] }
  | _ => none }
def segSumsRow : OpenClaim := { program := "ytnnlmbmgaajmhaa", sum := "5f010473cef8f989b7e5b9b9ab1450a41873664f879a6ebc81d7543602f10884", func := "carrefour/carrefourlaw11.SegSums", spec := "segSums", apart := false }
def SegSumsSaid : Prop := segSumsRow.holds Try.pinned (OpenSpec.ofChange segSumsSpec)

/-- ITS FALSE NEIGHBOUR: 'it returns false'. Refute it at one input. -/
def segSumsWrong : ChangeSpec := { name := "segSums", fn := fun _ => fun
  | [d1, d2, d3] => { results := [.lit (.bool false)], args := [d1, d2, d3] }
  | _ => none }
def SegSumsWrongFalsely : Prop := segSumsRow.holds Try.pinned (OpenSpec.ofChange segSumsWrong)

/-- 'carrefourlaw11.SegRows': WHATEVER THE INPUT: true; the input reads as it did. -/
def segRowsSpec : ChangeSpec := { name := "segRows", fn := fun _ => fun
  | [d1, d2, d3, d4] => { results := [.lit (.bool true)], args := [d1, d2, d3, d4] }
  | _ => none }
def segRowsRow : OpenClaim := { program := "ytnnlmbmgaajmhaa", sum := "5f010473cef8f989b7e5b9b9ab1450a41873664f879a6ebc81d7543602f10884", func := "carrefour/carrefourlaw11.SegRows", spec := "segRows", apart := false }
def SegRowsSaid : Prop := segRowsRow.holds Try.pinned (OpenSpec.ofChange segRowsSpec)

/-- ITS FALSE NEIGHBOUR: 'it returns false'. Refute it at one input. -/
def segRowsWrong : ChangeSpec := { name := "segRows", fn := fun _ => fun
  | [d1, d2, d3, d4] => { results := [.lit (.bool false)], args := [d1, d2, d3, d4] }
  | _ => none }
def SegRowsWrongFalsely : Prop := segRowsRow.holds Try.pinned (OpenSpec.ofChange segRowsWrong)

/-- 'carrefourlaw11.SegBounds': WHATEVER THE INPUT: true; the input reads as it did. -/
def segBoundsSpec : ChangeSpec := { name := "segBounds", fn := fun _ => fun
  | [d1, d2] => { results := [.lit (.bool true)], args := [d1, d2] }
  | _ => none }
def segBoundsRow : OpenClaim := { program := "ytnnlmbmgaajmhaa", sum := "5f010473cef8f989b7e5b9b9ab1450a41873664f879a6ebc81d7543602f10884", func := "carrefour/carrefourlaw11.SegBounds", spec := "segBounds", apart := false }
def SegBoundsSaid : Prop := segBoundsRow.holds Try.pinned (OpenSpec.ofChange segBoundsSpec)

/-- ITS FALSE NEIGHBOUR: 'it returns false'. Refute it at one input. -/
def segBoundsWrong : ChangeSpec := { name := "segBounds", fn := fun _ => fun
  | [d1, d2] => { results := [.lit (.bool false)], args := [d1, d2] }
  | _ => none }
def SegBoundsWrongFalsely : Prop := segBoundsRow.holds Try.pinned (OpenSpec.ofChange segBoundsWrong)

/-- 'carrefourlaw11.SegPlays': WHATEVER THE INPUT: true; the input reads as it did. -/
def segPlaysSpec : ChangeSpec := { name := "segPlays", fn := fun _ => fun
  | [d] => { results := [.lit (.bool true)], args := [d] }
  | _ => none }
def segPlaysRow : OpenClaim := { program := "ytnnlmbmgaajmhaa", sum := "5f010473cef8f989b7e5b9b9ab1450a41873664f879a6ebc81d7543602f10884", func := "carrefour/carrefourlaw11.SegPlays", spec := "segPlays", apart := false }
def SegPlaysSaid : Prop := segPlaysRow.holds Try.pinned (OpenSpec.ofChange segPlaysSpec)

/-- ITS FALSE NEIGHBOUR: 'it returns false'. Refute it at one input. -/
def segPlaysWrong : ChangeSpec := { name := "segPlays", fn := fun _ => fun
  | [d] => { results := [.lit (.bool false)], args := [d] }
  | _ => none }
def SegPlaysWrongFalsely : Prop := segPlaysRow.holds Try.pinned (OpenSpec.ofChange segPlaysWrong)

/-- 'carrefourlaw11.SegBegins': WHATEVER THE INPUT: true; the input reads as it did. -/
def segBeginsSpec : ChangeSpec := { name := "segBegins", fn := fun _ => fun
  | [d1, d2, d3, d4, d5] => { results := [.lit (.bool true)], args := [d1, d2, d3, d4, d5] }
  | _ => none }
def segBeginsRow : OpenClaim := { program := "ytnnlmbmgaajmhaa", sum := "5f010473cef8f989b7e5b9b9ab1450a41873664f879a6ebc81d7543602f10884", func := "carrefour/carrefourlaw11.SegBegins", spec := "segBegins", apart := false }
def SegBeginsSaid : Prop := segBeginsRow.holds Try.pinned (OpenSpec.ofChange segBeginsSpec)

/-- ITS FALSE NEIGHBOUR: 'it returns false'. Refute it at one input. -/
def segBeginsWrong : ChangeSpec := { name := "segBegins", fn := fun _ => fun
  | [d1, d2, d3, d4, d5] => { results := [.lit (.bool false)], args := [d1, d2, d3, d4, d5] }
  | _ => none }
def SegBeginsWrongFalsely : Prop := segBeginsRow.holds Try.pinned (OpenSpec.ofChange segBeginsWrong)

/- THE SECOND FORM. 'bulk': how many values and letters a reading holds, each counted each time it is reached (what is shared counts as often as it is met; a slice's spare places count too). A statement '..UptoSaid' is the law's where the arguments, and the package variables that the reading takes, are together of bulk at most 1048576: NARROWER than '..Said'. Prove '..Said' where nothing that the law and all that it calls make is longer than what came in: it says more and counts as full. Else prove '..UptoSaid'. A law counts once. -/
mutual
def uptoBulk {H : Type} : DataW H → Nat
  | .lit (.string bytes) => bytes.length + 1
  | .lit _ => 1
  | .nil => 1
  | .ptr d => uptoBulk d + 1
  | .slice elems spare => uptoBulkAll elems + uptoBulkAll spare + 1
  | .agg parts => uptoBulkAll parts + 1
  | .iface _ d => uptoBulk d + 1
  | .map entries => uptoBulkEntries entries + 1
  | .held _ => 1
def uptoBulkAll {H : Type} : List (DataW H) → Nat
  | [] => 0
  | d :: r => uptoBulk d + uptoBulkAll r
def uptoBulkEntries {H : Type} : List (Lit × DataW H) → Nat
  | [] => 0
  | x :: r => uptoBulkEntry x + uptoBulkEntries r
def uptoBulkEntry {H : Type} : Lit × DataW H → Nat
  | (.string bytes, d) => bytes.length + uptoBulk d + 1
  | (_, d) => uptoBulk d + 1
 end
def uptoSmall : (H : Type) → List (DataW H) → Bool := fun _ ds => decide (uptoBulkAll ds ≤ 1048576)
def OpenSpec.upto (s : _root_.Go.ChangeSpec) : _root_.Go.OpenSpec := { _root_.Go.OpenSpec.ofChange s with cond := some uptoSmall }

/-- 'carrefourlaw11.SegAsks', WHERE WHAT IT READS IS OF BULK AT MOST 1048576: true; the input reads as it did. -/
def segAsksUptoRow : OpenClaim := { program := "ytnnlmbmgaajmhaa", sum := "5f010473cef8f989b7e5b9b9ab1450a41873664f879a6ebc81d7543602f10884", func := "carrefour/carrefourlaw11.SegAsks", spec := "segAsks", apart := false, narrowed := true }
def SegAsksUptoSaid : Prop := segAsksUptoRow.holds Try.pinned (OpenSpec.upto segAsksSpec)

/-- 'carrefourlaw11.SegKeeps', WHERE WHAT IT READS IS OF BULK AT MOST 1048576: true; the input reads as it did. -/
def segKeepsUptoRow : OpenClaim := { program := "ytnnlmbmgaajmhaa", sum := "5f010473cef8f989b7e5b9b9ab1450a41873664f879a6ebc81d7543602f10884", func := "carrefour/carrefourlaw11.SegKeeps", spec := "segKeeps", apart := false, narrowed := true }
def SegKeepsUptoSaid : Prop := segKeepsUptoRow.holds Try.pinned (OpenSpec.upto segKeepsSpec)

/-- 'carrefourlaw11.SegSums', WHERE WHAT IT READS IS OF BULK AT MOST 1048576: true; the input reads as it did. -/
def segSumsUptoRow : OpenClaim := { program := "ytnnlmbmgaajmhaa", sum := "5f010473cef8f989b7e5b9b9ab1450a41873664f879a6ebc81d7543602f10884", func := "carrefour/carrefourlaw11.SegSums", spec := "segSums", apart := false, narrowed := true }
def SegSumsUptoSaid : Prop := segSumsUptoRow.holds Try.pinned (OpenSpec.upto segSumsSpec)

/-- 'carrefourlaw11.SegRows', WHERE WHAT IT READS IS OF BULK AT MOST 1048576: true; the input reads as it did. -/
def segRowsUptoRow : OpenClaim := { program := "ytnnlmbmgaajmhaa", sum := "5f010473cef8f989b7e5b9b9ab1450a41873664f879a6ebc81d7543602f10884", func := "carrefour/carrefourlaw11.SegRows", spec := "segRows", apart := false, narrowed := true }
def SegRowsUptoSaid : Prop := segRowsUptoRow.holds Try.pinned (OpenSpec.upto segRowsSpec)

/-- 'carrefourlaw11.SegBounds', WHERE WHAT IT READS IS OF BULK AT MOST 1048576: true; the input reads as it did. -/
def segBoundsUptoRow : OpenClaim := { program := "ytnnlmbmgaajmhaa", sum := "5f010473cef8f989b7e5b9b9ab1450a41873664f879a6ebc81d7543602f10884", func := "carrefour/carrefourlaw11.SegBounds", spec := "segBounds", apart := false, narrowed := true }
def SegBoundsUptoSaid : Prop := segBoundsUptoRow.holds Try.pinned (OpenSpec.upto segBoundsSpec)

/-- 'carrefourlaw11.SegPlays', WHERE WHAT IT READS IS OF BULK AT MOST 1048576: true; the input reads as it did. -/
def segPlaysUptoRow : OpenClaim := { program := "ytnnlmbmgaajmhaa", sum := "5f010473cef8f989b7e5b9b9ab1450a41873664f879a6ebc81d7543602f10884", func := "carrefour/carrefourlaw11.SegPlays", spec := "segPlays", apart := false, narrowed := true }
def SegPlaysUptoSaid : Prop := segPlaysUptoRow.holds Try.pinned (OpenSpec.upto segPlaysSpec)

/-- 'carrefourlaw11.SegBegins', WHERE WHAT IT READS IS OF BULK AT MOST 1048576: true; the input reads as it did. -/
def segBeginsUptoRow : OpenClaim := { program := "ytnnlmbmgaajmhaa", sum := "5f010473cef8f989b7e5b9b9ab1450a41873664f879a6ebc81d7543602f10884", func := "carrefour/carrefourlaw11.SegBegins", spec := "segBegins", apart := false, narrowed := true }
def SegBeginsUptoSaid : Prop := segBeginsUptoRow.holds Try.pinned (OpenSpec.upto segBeginsSpec)

end Rows
end Go.Proofs.Ytnnlmbmgaajmhaa
