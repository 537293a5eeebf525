/-
  No cell of these rows narrows 'for every input' (looked for: loops, veiled, ifaces, maps, wideKeys, modest, calm, conditions, laid).
  DERIVED. THE GIVEN ROWS OF THIS SEAT. 6 by the template 'for every input the law returns true; each argument reads behind the call as it read before'; 0 by the template 'total and deterministic' (their statements: YtmolpckfemcieaaTotals.lean).
  GIVEN WITH THE SEED: the statements are not yours to turn. If you find one false, say at which input.
  Laid BY PROGRAM, IN A SANDBOX (cutbox-rows.mjs): the forced cells as the released guide's own fill.sh prints them over the translation fe022ad255847d6c… (all of the seat's roots in one cut). By AI agents, Wed Nov 11 2026. No macro, syntax, notation, axiom, sorry.
-/
import Derived.Test.YtmolpckfemcieaaChecked
import GoSem.Claim
import GoSem.ClaimJoined
import GoSem.ClaimMapViews
import Derived.JoinedTies
import Derived.KernelRfl
namespace Go.Proofs.Ytmolpckfemcieaa
/- THE CELL 'sum', in the pinned program and in every row, IS THE sha256 OF THE DUMP (.gsa) THAT YtmolpckfemcieaaProg.lean LOADS. Nothing in Lean hashes anything: it is a label: what it is worth is what the hold of that sum in a sandbox is worth. -/
noncomputable def Try.pinned : Pinned := { name := "ytmolpckfemcieaa", sum := "fe022ad255847d6c357e5128a9fb53840fd7b40e3f0fe47fc88f1470f06838cf", checked := Try.checked }
namespace Rows
def none {H : Type} : Left H := { results := [], args := [] }

/-- 'carrefourlaw1.QuadTurns': WHATEVER THE INPUT: true; the input reads as it did. -/
def quadTurnsSpec : ChangeSpec := { name := "quadTurns", fn := fun _ => fun
  | [d1, d2, d3, d4] => { results := [.lit (.bool true)], args := [d1, d2, d3, d4] }
  | _ => none }
def quadTurnsRow : OpenClaim := { program := "ytmolpckfemcieaa", sum := "fe022ad255847d6c357e5128a9fb53840fd7b40e3f0fe47fc88f1470f06838cf", func := "carrefour/carrefourlaw1.QuadTurns", spec := "quadTurns", inPlace := ["math.archTrunc", "math.Float64bits", "math.Float64frombits"], unfollowed := true, recurses := true, apart := false }
def QuadTurnsSaid : Prop := quadTurnsRow.holds Try.pinned (OpenSpec.ofChange quadTurnsSpec)

/-- ITS FALSE NEIGHBOUR: 'it returns false'. Refute it at one input. -/
def quadTurnsWrong : ChangeSpec := { name := "quadTurns", fn := fun _ => fun
  | [d1, d2, d3, d4] => { results := [.lit (.bool false)], args := [d1, d2, d3, d4] }
  | _ => none }
def QuadTurnsWrongFalsely : Prop := quadTurnsRow.holds Try.pinned (OpenSpec.ofChange quadTurnsWrong)

/-- 'carrefourlaw1.QuadShift': WHATEVER THE INPUT: true; the input reads as it did. -/
def quadShiftSpec : ChangeSpec := { name := "quadShift", fn := fun _ => fun
  | [d] => { results := [.lit (.bool true)], args := [d] }
  | _ => none }
def quadShiftRow : OpenClaim := { program := "ytmolpckfemcieaa", sum := "fe022ad255847d6c357e5128a9fb53840fd7b40e3f0fe47fc88f1470f06838cf", func := "carrefour/carrefourlaw1.QuadShift", spec := "quadShift", inPlace := ["math.archTrunc", "math.Float64bits", "math.Float64frombits"], unfollowed := true, recurses := true, apart := false }
def QuadShiftSaid : Prop := quadShiftRow.holds Try.pinned (OpenSpec.ofChange quadShiftSpec)

/-- ITS FALSE NEIGHBOUR: 'it returns false'. Refute it at one input. -/
def quadShiftWrong : ChangeSpec := { name := "quadShift", fn := fun _ => fun
  | [d] => { results := [.lit (.bool false)], args := [d] }
  | _ => none }
def QuadShiftWrongFalsely : Prop := quadShiftRow.holds Try.pinned (OpenSpec.ofChange quadShiftWrong)

/-- 'carrefourlaw1.QuadSums': WHATEVER THE INPUT: true; the input reads as it did. -/
def quadSumsSpec : ChangeSpec := { name := "quadSums", fn := fun _ => fun
  | [d1, d2] => { results := [.lit (.bool true)], args := [d1, d2] }
  | _ => none }
def quadSumsRow : OpenClaim := { program := "ytmolpckfemcieaa", sum := "fe022ad255847d6c357e5128a9fb53840fd7b40e3f0fe47fc88f1470f06838cf", func := "carrefour/carrefourlaw1.QuadSums", spec := "quadSums", inPlace := ["math.archTrunc", "math.Float64bits", "math.Float64frombits"], unfollowed := true, recurses := true, apart := false }
def QuadSumsSaid : Prop := quadSumsRow.holds Try.pinned (OpenSpec.ofChange quadSumsSpec)

/-- ITS FALSE NEIGHBOUR: 'it returns false'. Refute it at one input. -/
def quadSumsWrong : ChangeSpec := { name := "quadSums", fn := fun _ => fun
  | [d1, d2] => { results := [.lit (.bool false)], args := [d1, d2] }
  | _ => none }
def QuadSumsWrongFalsely : Prop := quadSumsRow.holds Try.pinned (OpenSpec.ofChange quadSumsWrong)

/-- 'carrefourlaw1.QuadFour': WHATEVER THE INPUT: true; the input reads as it did. -/
def quadFourSpec : ChangeSpec := { name := "quadFour", fn := fun _ => fun
  | [d] => { results := [.lit (.bool true)], args := [d] }
  | _ => none }
def quadFourRow : OpenClaim := { program := "ytmolpckfemcieaa", sum := "fe022ad255847d6c357e5128a9fb53840fd7b40e3f0fe47fc88f1470f06838cf", func := "carrefour/carrefourlaw1.QuadFour", spec := "quadFour", inPlace := ["math.archTrunc", "math.Float64bits", "math.Float64frombits"], unfollowed := true, recurses := true, apart := false }
def QuadFourSaid : Prop := quadFourRow.holds Try.pinned (OpenSpec.ofChange quadFourSpec)

/-- ITS FALSE NEIGHBOUR: 'it returns false'. Refute it at one input. -/
def quadFourWrong : ChangeSpec := { name := "quadFour", fn := fun _ => fun
  | [d] => { results := [.lit (.bool false)], args := [d] }
  | _ => none }
def QuadFourWrongFalsely : Prop := quadFourRow.holds Try.pinned (OpenSpec.ofChange quadFourWrong)

/-- 'carrefourlaw1.QuadBack': WHATEVER THE INPUT: true; the input reads as it did. -/
def quadBackSpec : ChangeSpec := { name := "quadBack", fn := fun _ => fun
  | [d] => { results := [.lit (.bool true)], args := [d] }
  | _ => none }
def quadBackRow : OpenClaim := { program := "ytmolpckfemcieaa", sum := "fe022ad255847d6c357e5128a9fb53840fd7b40e3f0fe47fc88f1470f06838cf", func := "carrefour/carrefourlaw1.QuadBack", spec := "quadBack", inPlace := ["math.archTrunc", "math.Float64bits", "math.Float64frombits"], unfollowed := true, recurses := true, apart := false }
def QuadBackSaid : Prop := quadBackRow.holds Try.pinned (OpenSpec.ofChange quadBackSpec)

/-- ITS FALSE NEIGHBOUR: 'it returns false'. Refute it at one input. -/
def quadBackWrong : ChangeSpec := { name := "quadBack", fn := fun _ => fun
  | [d] => { results := [.lit (.bool false)], args := [d] }
  | _ => none }
def QuadBackWrongFalsely : Prop := quadBackRow.holds Try.pinned (OpenSpec.ofChange quadBackWrong)

/-- 'carrefourlaw1.QuadEdges': WHATEVER THE INPUT: true; the input reads as it did. -/
def quadEdgesSpec : ChangeSpec := { name := "quadEdges", fn := fun _ => fun
  | [d1, d2] => { results := [.lit (.bool true)], args := [d1, d2] }
  | _ => none }
def quadEdgesRow : OpenClaim := { program := "ytmolpckfemcieaa", sum := "fe022ad255847d6c357e5128a9fb53840fd7b40e3f0fe47fc88f1470f06838cf", func := "carrefour/carrefourlaw1.QuadEdges", spec := "quadEdges", inPlace := ["math.Float64bits", "math.Float64frombits", "math.archTrunc"], unfollowed := true, recurses := true, apart := false }
def QuadEdgesSaid : Prop := quadEdgesRow.holds Try.pinned (OpenSpec.ofChange quadEdgesSpec)

/-- ITS FALSE NEIGHBOUR: 'it returns false'. Refute it at one input. -/
def quadEdgesWrong : ChangeSpec := { name := "quadEdges", fn := fun _ => fun
  | [d1, d2] => { results := [.lit (.bool false)], args := [d1, d2] }
  | _ => none }
def QuadEdgesWrongFalsely : Prop := quadEdgesRow.holds Try.pinned (OpenSpec.ofChange quadEdgesWrong)

/- THE SECOND FORM. 'bulk': how many values and letters a reading holds, each counted each time it is reached (what is shared counts as often as it is met; a slice's spare places count too). A statement '..UptoSaid' is the law's where the arguments, and the package variables that the reading takes, are together of bulk at most 1048576: NARROWER than '..Said'. Prove '..Said' where nothing that the law and all that it calls make is longer than what came in: it says more and counts as full. Else prove '..UptoSaid'. A law counts once. -/
mutual
def uptoBulk {H : Type} : DataW H → Nat
  | .lit (.string bytes) => bytes.length + 1
  | .lit _ => 1
  | .nil => 1
  | .ptr d => uptoBulk d + 1
  | .slice elems spare => uptoBulkAll elems + uptoBulkAll spare + 1
  | .agg parts => uptoBulkAll parts + 1
  | .iface _ d => uptoBulk d + 1
  | .map entries => uptoBulkEntries entries + 1
  | .held _ => 1
def uptoBulkAll {H : Type} : List (DataW H) → Nat
  | [] => 0
  | d :: r => uptoBulk d + uptoBulkAll r
def uptoBulkEntries {H : Type} : List (Lit × DataW H) → Nat
  | [] => 0
  | x :: r => uptoBulkEntry x + uptoBulkEntries r
def uptoBulkEntry {H : Type} : Lit × DataW H → Nat
  | (.string bytes, d) => bytes.length + uptoBulk d + 1
  | (_, d) => uptoBulk d + 1
 end
def uptoSmall : (H : Type) → List (DataW H) → Bool := fun _ ds => decide (uptoBulkAll ds ≤ 1048576)
def OpenSpec.upto (s : _root_.Go.ChangeSpec) : _root_.Go.OpenSpec := { _root_.Go.OpenSpec.ofChange s with cond := some uptoSmall }

/-- 'carrefourlaw1.QuadTurns', WHERE WHAT IT READS IS OF BULK AT MOST 1048576: true; the input reads as it did. -/
def quadTurnsUptoRow : OpenClaim := { program := "ytmolpckfemcieaa", sum := "fe022ad255847d6c357e5128a9fb53840fd7b40e3f0fe47fc88f1470f06838cf", func := "carrefour/carrefourlaw1.QuadTurns", spec := "quadTurns", inPlace := ["math.archTrunc", "math.Float64bits", "math.Float64frombits"], unfollowed := true, recurses := true, apart := false, narrowed := true }
def QuadTurnsUptoSaid : Prop := quadTurnsUptoRow.holds Try.pinned (OpenSpec.upto quadTurnsSpec)

/-- 'carrefourlaw1.QuadShift', WHERE WHAT IT READS IS OF BULK AT MOST 1048576: true; the input reads as it did. -/
def quadShiftUptoRow : OpenClaim := { program := "ytmolpckfemcieaa", sum := "fe022ad255847d6c357e5128a9fb53840fd7b40e3f0fe47fc88f1470f06838cf", func := "carrefour/carrefourlaw1.QuadShift", spec := "quadShift", inPlace := ["math.archTrunc", "math.Float64bits", "math.Float64frombits"], unfollowed := true, recurses := true, apart := false, narrowed := true }
def QuadShiftUptoSaid : Prop := quadShiftUptoRow.holds Try.pinned (OpenSpec.upto quadShiftSpec)

/-- 'carrefourlaw1.QuadSums', WHERE WHAT IT READS IS OF BULK AT MOST 1048576: true; the input reads as it did. -/
def quadSumsUptoRow : OpenClaim := { program := "ytmolpckfemcieaa", sum := "fe022ad255847d6c357e5128a9fb53840fd7b40e3f0fe47fc88f1470f06838cf", func := "carrefour/carrefourlaw1.QuadSums", spec := "quadSums", inPlace := ["math.archTrunc", "math.Float64bits", "math.Float64frombits"], unfollowed := true, recurses := true, apart := false, narrowed := true }
def QuadSumsUptoSaid : Prop := quadSumsUptoRow.holds Try.pinned (OpenSpec.upto quadSumsSpec)

/-- 'carrefourlaw1.QuadFour', WHERE WHAT IT READS IS OF BULK AT MOST 1048576: true; the input reads as it did. -/
def quadFourUptoRow : OpenClaim := { program := "ytmolpckfemcieaa", sum := "fe022ad255847d6c357e5128a9fb53840fd7b40e3f0fe47fc88f1470f06838cf", func := "carrefour/carrefourlaw1.QuadFour", spec := "quadFour", inPlace := ["math.archTrunc", "math.Float64bits", "math.Float64frombits"], unfollowed := true, recurses := true, apart := false, narrowed := true }
def QuadFourUptoSaid : Prop := quadFourUptoRow.holds Try.pinned (OpenSpec.upto quadFourSpec)

/-- 'carrefourlaw1.QuadBack', WHERE WHAT IT READS IS OF BULK AT MOST 1048576: true; the input reads as it did. -/
def quadBackUptoRow : OpenClaim := { program := "ytmolpckfemcieaa", sum := "fe022ad255847d6c357e5128a9fb53840fd7b40e3f0fe47fc88f1470f06838cf", func := "carrefour/carrefourlaw1.QuadBack", spec := "quadBack", inPlace := ["math.archTrunc", "math.Float64bits", "math.Float64frombits"], unfollowed := true, recurses := true, apart := false, narrowed := true }
def QuadBackUptoSaid : Prop := quadBackUptoRow.holds Try.pinned (OpenSpec.upto quadBackSpec)

/-- 'carrefourlaw1.QuadEdges', WHERE WHAT IT READS IS OF BULK AT MOST 1048576: true; the input reads as it did. -/
def quadEdgesUptoRow : OpenClaim := { program := "ytmolpckfemcieaa", sum := "fe022ad255847d6c357e5128a9fb53840fd7b40e3f0fe47fc88f1470f06838cf", func := "carrefour/carrefourlaw1.QuadEdges", spec := "quadEdges", inPlace := ["math.Float64bits", "math.Float64frombits", "math.archTrunc"], unfollowed := true, recurses := true, apart := false, narrowed := true }
def QuadEdgesUptoSaid : Prop := quadEdgesUptoRow.holds Try.pinned (OpenSpec.upto quadEdgesSpec)

end Rows
end Go.Proofs.Ytmolpckfemcieaa
