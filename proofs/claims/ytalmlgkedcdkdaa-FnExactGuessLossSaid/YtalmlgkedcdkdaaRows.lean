/-
  No cell of these rows narrows 'for every input' (looked for: loops, veiled, ifaces, maps, wideKeys, modest, calm, conditions, laid).
  DERIVED. THE GIVEN ROWS OF THIS SEAT. 2 by the template 'for every input the law returns true; each argument reads behind the call as it read before'; 0 by the template 'total and deterministic' (their statements: YtalmlgkedcdkdaaTotals.lean).
  GIVEN WITH THE SEED: the statements are not yours to turn. If you find one false, say at which input.
  Laid BY PROGRAM, IN A SANDBOX (cutbox-rows.mjs): the forced cells as the released guide's own fill.sh prints them over the translation 361e9cf79bbb6c16… (all of the seat's roots in one cut). By AI agents, Wed Nov 11 2026. No macro, syntax, notation, axiom, sorry.
-/
import Derived.Test.YtalmlgkedcdkdaaChecked
import GoSem.Claim
import GoSem.ClaimJoined
import GoSem.ClaimMapViews
import Derived.JoinedTies
import Derived.KernelRfl
namespace Go.Proofs.Ytalmlgkedcdkdaa
/- THE CELL 'sum', in the pinned program and in every row, IS THE sha256 OF THE DUMP (.gsa) THAT YtalmlgkedcdkdaaProg.lean LOADS. Nothing in Lean hashes anything: it is a label: what it is worth is what the hold of that sum in a sandbox is worth. -/
noncomputable def Try.pinned : Pinned := { name := "ytalmlgkedcdkdaa", sum := "361e9cf79bbb6c16f48b707bfce7d39969aa86e076a11857fceed57b49916cef", checked := Try.checked }
namespace Rows
def none {H : Type} : Left H := { results := [], args := [] }

/-- 'laws.FnExactBoundsOfLoss': WHATEVER THE INPUT: true; the input reads as it did. -/
def fnExactBoundsOfLossSpec : ChangeSpec := { name := "fnExactBoundsOfLoss", fn := fun _ => fun
  | [d1, d2, d3] => { results := [.lit (.bool true)], args := [d1, d2, d3] }
  | _ => none }
def fnExactBoundsOfLossRow : OpenClaim := { program := "ytalmlgkedcdkdaa", sum := "361e9cf79bbb6c16f48b707bfce7d39969aa86e076a11857fceed57b49916cef", func := "loop.example/g01338/laws.FnExactBoundsOfLoss", spec := "fnExactBoundsOfLoss", unfollowed := true, recurses := true, apart := false }
def FnExactBoundsOfLossSaid : Prop := fnExactBoundsOfLossRow.holds Try.pinned (OpenSpec.ofChange fnExactBoundsOfLossSpec)

/-- ITS FALSE NEIGHBOUR: 'it returns false'. Refute it at one input. -/
def fnExactBoundsOfLossWrong : ChangeSpec := { name := "fnExactBoundsOfLoss", fn := fun _ => fun
  | [d1, d2, d3] => { results := [.lit (.bool false)], args := [d1, d2, d3] }
  | _ => none }
def FnExactBoundsOfLossWrongFalsely : Prop := fnExactBoundsOfLossRow.holds Try.pinned (OpenSpec.ofChange fnExactBoundsOfLossWrong)

/-- 'laws.FnExactGuessLoss': WHATEVER THE INPUT: true; the input reads as it did. -/
def fnExactGuessLossSpec : ChangeSpec := { name := "fnExactGuessLoss", fn := fun _ => fun
  | [d1, d2, d3] => { results := [.lit (.bool true)], args := [d1, d2, d3] }
  | _ => none }
def fnExactGuessLossRow : OpenClaim := { program := "ytalmlgkedcdkdaa", sum := "361e9cf79bbb6c16f48b707bfce7d39969aa86e076a11857fceed57b49916cef", func := "loop.example/g01338/laws.FnExactGuessLoss", spec := "fnExactGuessLoss", unfollowed := true, recurses := true, apart := false }
def FnExactGuessLossSaid : Prop := fnExactGuessLossRow.holds Try.pinned (OpenSpec.ofChange fnExactGuessLossSpec)

/-- ITS FALSE NEIGHBOUR: 'it returns false'. Refute it at one input. -/
def fnExactGuessLossWrong : ChangeSpec := { name := "fnExactGuessLoss", fn := fun _ => fun
  | [d1, d2, d3] => { results := [.lit (.bool false)], args := [d1, d2, d3] }
  | _ => none }
def FnExactGuessLossWrongFalsely : Prop := fnExactGuessLossRow.holds Try.pinned (OpenSpec.ofChange fnExactGuessLossWrong)

/- THE SECOND FORM. 'bulk': how many values and letters a reading holds, each counted each time it is reached (what is shared counts as often as it is met; a slice's spare places count too). A statement '..UptoSaid' is the law's where the arguments, and the package variables that the reading takes, are together of bulk at most 1048576: NARROWER than '..Said'. Prove '..Said' where nothing that the law and all that it calls make is longer than what came in: it says more and counts as full. Else prove '..UptoSaid'. A law counts once. -/
mutual
def uptoBulk {H : Type} : DataW H → Nat
  | .lit (.string bytes) => bytes.length + 1
  | .lit _ => 1
  | .nil => 1
  | .ptr d => uptoBulk d + 1
  | .slice elems spare => uptoBulkAll elems + uptoBulkAll spare + 1
  | .agg parts => uptoBulkAll parts + 1
  | .iface _ d => uptoBulk d + 1
  | .map entries => uptoBulkEntries entries + 1
  | .held _ => 1
def uptoBulkAll {H : Type} : List (DataW H) → Nat
  | [] => 0
  | d :: r => uptoBulk d + uptoBulkAll r
def uptoBulkEntries {H : Type} : List (Lit × DataW H) → Nat
  | [] => 0
  | x :: r => uptoBulkEntry x + uptoBulkEntries r
def uptoBulkEntry {H : Type} : Lit × DataW H → Nat
  | (.string bytes, d) => bytes.length + uptoBulk d + 1
  | (_, d) => uptoBulk d + 1
 end
def uptoSmall : (H : Type) → List (DataW H) → Bool := fun _ ds => decide (uptoBulkAll ds ≤ 1048576)
def OpenSpec.upto (s : _root_.Go.ChangeSpec) : _root_.Go.OpenSpec := { _root_.Go.OpenSpec.ofChange s with cond := some uptoSmall }

/-- 'laws.FnExactBoundsOfLoss', WHERE WHAT IT READS IS OF BULK AT MOST 1048576: true; the input reads as it did. -/
def fnExactBoundsOfLossUptoRow : OpenClaim := { program := "ytalmlgkedcdkdaa", sum := "361e9cf79bbb6c16f48b707bfce7d39969aa86e076a11857fceed57b49916cef", func := "loop.example/g01338/laws.FnExactBoundsOfLoss", spec := "fnExactBoundsOfLoss", unfollowed := true, recurses := true, apart := false, narrowed := true }
def FnExactBoundsOfLossUptoSaid : Prop := fnExactBoundsOfLossUptoRow.holds Try.pinned (OpenSpec.upto fnExactBoundsOfLossSpec)

/-- 'laws.FnExactGuessLoss', WHERE WHAT IT READS IS OF BULK AT MOST 1048576: true; the input reads as it did. -/
def fnExactGuessLossUptoRow : OpenClaim := { program := "ytalmlgkedcdkdaa", sum := "361e9cf79bbb6c16f48b707bfce7d39969aa86e076a11857fceed57b49916cef", func := "loop.example/g01338/laws.FnExactGuessLoss", spec := "fnExactGuessLoss", unfollowed := true, recurses := true, apart := false, narrowed := true }
def FnExactGuessLossUptoSaid : Prop := fnExactGuessLossUptoRow.holds Try.pinned (OpenSpec.upto fnExactGuessLossSpec)

end Rows
end Go.Proofs.Ytalmlgkedcdkdaa
