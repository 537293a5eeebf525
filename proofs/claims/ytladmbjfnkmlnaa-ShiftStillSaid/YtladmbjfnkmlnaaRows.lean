/-
  No cell of these rows narrows 'for every input' (looked for: loops, veiled, ifaces, maps, wideKeys, modest, calm, conditions, laid).
  DERIVED. THE GIVEN ROWS OF THIS SEAT. 5 by the template 'for every input the law returns true; each argument reads behind the call as it read before'; 0 by the template 'total and deterministic' (their statements: YtladmbjfnkmlnaaTotals.lean).
  GIVEN WITH THE SEED: the statements are not yours to turn. If you find one false, say at which input.
  Laid BY PROGRAM, IN A SANDBOX (cutbox-rows.mjs): the forced cells as the released guide's own fill.sh prints them over the translation dd074806f394a99b… (all of the seat's roots in one cut). By AI agents, Wed Nov 11 2026. No macro, syntax, notation, axiom, sorry.
-/
import Derived.Test.YtladmbjfnkmlnaaChecked
import GoSem.Claim
import GoSem.ClaimJoined
import GoSem.ClaimMapViews
import Derived.JoinedTies
import Derived.KernelRfl
namespace Go.Proofs.Ytladmbjfnkmlnaa
/- THE CELL 'sum', in the pinned program and in every row, IS THE sha256 OF THE DUMP (.gsa) THAT YtladmbjfnkmlnaaProg.lean LOADS. Nothing in Lean hashes anything: it is a label: what it is worth is what the hold of that sum in a sandbox is worth. -/
noncomputable def Try.pinned : Pinned := { name := "ytladmbjfnkmlnaa", sum := "dd074806f394a99b9b44c21bf6a324b42b63194fc73651841ded7bd1ce8dae39", checked := Try.checked }
namespace Rows
def none {H : Type} : Left H := { results := [], args := [] }

/-- 'carrefourlaw18.ShiftAsks': WHATEVER THE INPUT: true; the input reads as it did. -/
def shiftAsksSpec : ChangeSpec := { name := "shiftAsks", fn := fun _ => fun
  | [d1, d2] => { results := [.lit (.bool true)], args := [d1, d2] }
  | _ => none }
def shiftAsksRow : OpenClaim := { program := "ytladmbjfnkmlnaa", sum := "dd074806f394a99b9b44c21bf6a324b42b63194fc73651841ded7bd1ce8dae39", func := "carrefour/carrefourlaw18.ShiftAsks", spec := "shiftAsks", apart := false }
def ShiftAsksSaid : Prop := shiftAsksRow.holds Try.pinned (OpenSpec.ofChange shiftAsksSpec)

/-- ITS FALSE NEIGHBOUR: 'it returns false'. Refute it at one input. -/
def shiftAsksWrong : ChangeSpec := { name := "shiftAsks", fn := fun _ => fun
  | [d1, d2] => { results := [.lit (.bool false)], args := [d1, d2] }
  | _ => none }
def ShiftAsksWrongFalsely : Prop := shiftAsksRow.holds Try.pinned (OpenSpec.ofChange shiftAsksWrong)

/-- 'carrefourlaw18.ShiftWays': WHATEVER THE INPUT: true; the input reads as it did. -/
def shiftWaysSpec : ChangeSpec := { name := "shiftWays", fn := fun _ => fun
  | [d] => { results := [.lit (.bool true)], args := [d] }
  | _ => none }
def shiftWaysRow : OpenClaim := { program := "ytladmbjfnkmlnaa", sum := "dd074806f394a99b9b44c21bf6a324b42b63194fc73651841ded7bd1ce8dae39", func := "carrefour/carrefourlaw18.ShiftWays", spec := "shiftWays", apart := false }
def ShiftWaysSaid : Prop := shiftWaysRow.holds Try.pinned (OpenSpec.ofChange shiftWaysSpec)

/-- ITS FALSE NEIGHBOUR: 'it returns false'. Refute it at one input. -/
def shiftWaysWrong : ChangeSpec := { name := "shiftWays", fn := fun _ => fun
  | [d] => { results := [.lit (.bool false)], args := [d] }
  | _ => none }
def ShiftWaysWrongFalsely : Prop := shiftWaysRow.holds Try.pinned (OpenSpec.ofChange shiftWaysWrong)

/-- 'carrefourlaw18.ShiftEnds': WHATEVER THE INPUT: true; the input reads as it did. -/
def shiftEndsSpec : ChangeSpec := { name := "shiftEnds", fn := fun _ => fun
  | [d] => { results := [.lit (.bool true)], args := [d] }
  | _ => none }
def shiftEndsRow : OpenClaim := { program := "ytladmbjfnkmlnaa", sum := "dd074806f394a99b9b44c21bf6a324b42b63194fc73651841ded7bd1ce8dae39", func := "carrefour/carrefourlaw18.ShiftEnds", spec := "shiftEnds", apart := false }
def ShiftEndsSaid : Prop := shiftEndsRow.holds Try.pinned (OpenSpec.ofChange shiftEndsSpec)

/-- ITS FALSE NEIGHBOUR: 'it returns false'. Refute it at one input. -/
def shiftEndsWrong : ChangeSpec := { name := "shiftEnds", fn := fun _ => fun
  | [d] => { results := [.lit (.bool false)], args := [d] }
  | _ => none }
def ShiftEndsWrongFalsely : Prop := shiftEndsRow.holds Try.pinned (OpenSpec.ofChange shiftEndsWrong)

/-- 'carrefourlaw18.ShiftPaths': WHATEVER THE INPUT: true; the input reads as it did. -/
def shiftPathsSpec : ChangeSpec := { name := "shiftPaths", fn := fun _ => fun
  | [d1, d2] => { results := [.lit (.bool true)], args := [d1, d2] }
  | _ => none }
def shiftPathsRow : OpenClaim := { program := "ytladmbjfnkmlnaa", sum := "dd074806f394a99b9b44c21bf6a324b42b63194fc73651841ded7bd1ce8dae39", func := "carrefour/carrefourlaw18.ShiftPaths", spec := "shiftPaths", apart := false }
def ShiftPathsSaid : Prop := shiftPathsRow.holds Try.pinned (OpenSpec.ofChange shiftPathsSpec)

/-- ITS FALSE NEIGHBOUR: 'it returns false'. Refute it at one input. -/
def shiftPathsWrong : ChangeSpec := { name := "shiftPaths", fn := fun _ => fun
  | [d1, d2] => { results := [.lit (.bool false)], args := [d1, d2] }
  | _ => none }
def ShiftPathsWrongFalsely : Prop := shiftPathsRow.holds Try.pinned (OpenSpec.ofChange shiftPathsWrong)

/-- 'carrefourlaw18.ShiftStill': WHATEVER THE INPUT: true; the input reads as it did. -/
def shiftStillSpec : ChangeSpec := { name := "shiftStill", fn := fun _ => fun
  | [d1, d2] => { results := [.lit (.bool true)], args := [d1, d2] }
  | _ => none }
def shiftStillRow : OpenClaim := { program := "ytladmbjfnkmlnaa", sum := "dd074806f394a99b9b44c21bf6a324b42b63194fc73651841ded7bd1ce8dae39", func := "carrefour/carrefourlaw18.ShiftStill", spec := "shiftStill", apart := false }
def ShiftStillSaid : Prop := shiftStillRow.holds Try.pinned (OpenSpec.ofChange shiftStillSpec)

/-- ITS FALSE NEIGHBOUR: 'it returns false'. Refute it at one input. -/
def shiftStillWrong : ChangeSpec := { name := "shiftStill", fn := fun _ => fun
  | [d1, d2] => { results := [.lit (.bool false)], args := [d1, d2] }
  | _ => none }
def ShiftStillWrongFalsely : Prop := shiftStillRow.holds Try.pinned (OpenSpec.ofChange shiftStillWrong)

/- THE SECOND FORM. 'bulk': how many values and letters a reading holds, each counted each time it is reached (what is shared counts as often as it is met; a slice's spare places count too). A statement '..UptoSaid' is the law's where the arguments, and the package variables that the reading takes, are together of bulk at most 1048576: NARROWER than '..Said'. Prove '..Said' where nothing that the law and all that it calls make is longer than what came in: it says more and counts as full. Else prove '..UptoSaid'. A law counts once. -/
mutual
def uptoBulk {H : Type} : DataW H → Nat
  | .lit (.string bytes) => bytes.length + 1
  | .lit _ => 1
  | .nil => 1
  | .ptr d => uptoBulk d + 1
  | .slice elems spare => uptoBulkAll elems + uptoBulkAll spare + 1
  | .agg parts => uptoBulkAll parts + 1
  | .iface _ d => uptoBulk d + 1
  | .map entries => uptoBulkEntries entries + 1
  | .held _ => 1
def uptoBulkAll {H : Type} : List (DataW H) → Nat
  | [] => 0
  | d :: r => uptoBulk d + uptoBulkAll r
def uptoBulkEntries {H : Type} : List (Lit × DataW H) → Nat
  | [] => 0
  | x :: r => uptoBulkEntry x + uptoBulkEntries r
def uptoBulkEntry {H : Type} : Lit × DataW H → Nat
  | (.string bytes, d) => bytes.length + uptoBulk d + 1
  | (_, d) => uptoBulk d + 1
 end
def uptoSmall : (H : Type) → List (DataW H) → Bool := fun _ ds => decide (uptoBulkAll ds ≤ 1048576)
def OpenSpec.upto (s : _root_.Go.ChangeSpec) : _root_.Go.OpenSpec := { _root_.Go.OpenSpec.ofChange s with cond := some uptoSmall }

/-- 'carrefourlaw18.ShiftAsks', WHERE WHAT IT READS IS OF BULK AT MOST 1048576: true; the input reads as it did. -/
def shiftAsksUptoRow : OpenClaim := { program := "ytladmbjfnkmlnaa", sum := "dd074806f394a99b9b44c21bf6a324b42b63194fc73651841ded7bd1ce8dae39", func := "carrefour/carrefourlaw18.ShiftAsks", spec := "shiftAsks", apart := false, narrowed := true }
def ShiftAsksUptoSaid : Prop := shiftAsksUptoRow.holds Try.pinned (OpenSpec.upto shiftAsksSpec)

/-- 'carrefourlaw18.ShiftWays', WHERE WHAT IT READS IS OF BULK AT MOST 1048576: true; the input reads as it did. -/
def shiftWaysUptoRow : OpenClaim := { program := "ytladmbjfnkmlnaa", sum := "dd074806f394a99b9b44c21bf6a324b42b63194fc73651841ded7bd1ce8dae39", func := "carrefour/carrefourlaw18.ShiftWays", spec := "shiftWays", apart := false, narrowed := true }
def ShiftWaysUptoSaid : Prop := shiftWaysUptoRow.holds Try.pinned (OpenSpec.upto shiftWaysSpec)

/-- 'carrefourlaw18.ShiftEnds', WHERE WHAT IT READS IS OF BULK AT MOST 1048576: true; the input reads as it did. -/
def shiftEndsUptoRow : OpenClaim := { program := "ytladmbjfnkmlnaa", sum := "dd074806f394a99b9b44c21bf6a324b42b63194fc73651841ded7bd1ce8dae39", func := "carrefour/carrefourlaw18.ShiftEnds", spec := "shiftEnds", apart := false, narrowed := true }
def ShiftEndsUptoSaid : Prop := shiftEndsUptoRow.holds Try.pinned (OpenSpec.upto shiftEndsSpec)

/-- 'carrefourlaw18.ShiftPaths', WHERE WHAT IT READS IS OF BULK AT MOST 1048576: true; the input reads as it did. -/
def shiftPathsUptoRow : OpenClaim := { program := "ytladmbjfnkmlnaa", sum := "dd074806f394a99b9b44c21bf6a324b42b63194fc73651841ded7bd1ce8dae39", func := "carrefour/carrefourlaw18.ShiftPaths", spec := "shiftPaths", apart := false, narrowed := true }
def ShiftPathsUptoSaid : Prop := shiftPathsUptoRow.holds Try.pinned (OpenSpec.upto shiftPathsSpec)

/-- 'carrefourlaw18.ShiftStill', WHERE WHAT IT READS IS OF BULK AT MOST 1048576: true; the input reads as it did. -/
def shiftStillUptoRow : OpenClaim := { program := "ytladmbjfnkmlnaa", sum := "dd074806f394a99b9b44c21bf6a324b42b63194fc73651841ded7bd1ce8dae39", func := "carrefour/carrefourlaw18.ShiftStill", spec := "shiftStill", apart := false, narrowed := true }
def ShiftStillUptoSaid : Prop := shiftStillUptoRow.holds Try.pinned (OpenSpec.upto shiftStillSpec)

end Rows
end Go.Proofs.Ytladmbjfnkmlnaa
