/-
  No cell of these rows narrows 'for every input' (looked for: loops, veiled, ifaces, maps, wideKeys, modest, calm, conditions, laid).
  DERIVED. THE GIVEN ROWS OF THIS SEAT. 10 by the template 'for every input the law returns true; each argument reads behind the call as it read before'; 0 by the template 'total and deterministic' (their statements: YtmhkechkkpppaaaTotals.lean).
  GIVEN WITH THE SEED: the statements are not yours to turn. If you find one false, say at which input.
  Laid BY PROGRAM, IN A SANDBOX (cutbox-rows.mjs): the forced cells as the released guide's own fill.sh prints them over the translation 0943cb008e2a355d… (all of the seat's roots in one cut). By AI agents, Wed Nov 11 2026. No macro, syntax, notation, axiom, sorry.
-/
import Derived.Test.YtmhkechkkpppaaaChecked
import GoSem.Claim
import GoSem.ClaimJoined
import GoSem.ClaimMapViews
import Derived.JoinedTies
import Derived.KernelRfl
namespace Go.Proofs.Ytmhkechkkpppaaa
/- THE CELL 'sum', in the pinned program and in every row, IS THE sha256 OF THE DUMP (.gsa) THAT YtmhkechkkpppaaaProg.lean LOADS. Nothing in Lean hashes anything: it is a label: what it is worth is what the hold of that sum in a sandbox is worth. -/
noncomputable def Try.pinned : Pinned := { name := "ytmhkechkkpppaaa", sum := "0943cb008e2a355d8ae54a9ab85bdd500f687ea16528264a1daf70da95178610", checked := Try.checked }
namespace Rows
def none {H : Type} : Left H := { results := [], args := [] }

/-- 'laws.FnExactJoinBeats': WHATEVER THE INPUT: true; the input reads as it did. -/
def fnExactJoinBeatsSpec : ChangeSpec := { name := "fnExactJoinBeats", fn := fun _ => fun
  | [d1, d2, d3] => { results := [.lit (.bool true)], args := [d1, d2, d3] }
  | _ => none }
def fnExactJoinBeatsRow : OpenClaim := { program := "ytmhkechkkpppaaa", sum := "0943cb008e2a355d8ae54a9ab85bdd500f687ea16528264a1daf70da95178610", func := "loop.example/g01338/laws.FnExactJoinBeats", spec := "fnExactJoinBeats", apart := false }
def FnExactJoinBeatsSaid : Prop := fnExactJoinBeatsRow.holds Try.pinned (OpenSpec.ofChange fnExactJoinBeatsSpec)

/-- ITS FALSE NEIGHBOUR: 'it returns false'. Refute it at one input. -/
def fnExactJoinBeatsWrong : ChangeSpec := { name := "fnExactJoinBeats", fn := fun _ => fun
  | [d1, d2, d3] => { results := [.lit (.bool false)], args := [d1, d2, d3] }
  | _ => none }
def FnExactJoinBeatsWrongFalsely : Prop := fnExactJoinBeatsRow.holds Try.pinned (OpenSpec.ofChange fnExactJoinBeatsWrong)

/-- 'laws.FnExactSeenAt': WHATEVER THE INPUT: true; the input reads as it did. -/
def fnExactSeenAtSpec : ChangeSpec := { name := "fnExactSeenAt", fn := fun _ => fun
  | [d1, d2, d3, d4] => { results := [.lit (.bool true)], args := [d1, d2, d3, d4] }
  | _ => none }
def fnExactSeenAtRow : OpenClaim := { program := "ytmhkechkkpppaaa", sum := "0943cb008e2a355d8ae54a9ab85bdd500f687ea16528264a1daf70da95178610", func := "loop.example/g01338/laws.FnExactSeenAt", spec := "fnExactSeenAt", unfollowed := true, recurses := true, apart := false }
def FnExactSeenAtSaid : Prop := fnExactSeenAtRow.holds Try.pinned (OpenSpec.ofChange fnExactSeenAtSpec)

/-- ITS FALSE NEIGHBOUR: 'it returns false'. Refute it at one input. -/
def fnExactSeenAtWrong : ChangeSpec := { name := "fnExactSeenAt", fn := fun _ => fun
  | [d1, d2, d3, d4] => { results := [.lit (.bool false)], args := [d1, d2, d3, d4] }
  | _ => none }
def FnExactSeenAtWrongFalsely : Prop := fnExactSeenAtRow.holds Try.pinned (OpenSpec.ofChange fnExactSeenAtWrong)

/-- 'laws.FnExactTurnBeat': WHATEVER THE INPUT: true; the input reads as it did. -/
def fnExactTurnBeatSpec : ChangeSpec := { name := "fnExactTurnBeat", fn := fun _ => fun
  | [d1, d2, d3] => { results := [.lit (.bool true)], args := [d1, d2, d3] }
  | _ => none }
def fnExactTurnBeatRow : OpenClaim := { program := "ytmhkechkkpppaaa", sum := "0943cb008e2a355d8ae54a9ab85bdd500f687ea16528264a1daf70da95178610", func := "loop.example/g01338/laws.FnExactTurnBeat", spec := "fnExactTurnBeat", unfollowed := true, recurses := true, apart := false }
def FnExactTurnBeatSaid : Prop := fnExactTurnBeatRow.holds Try.pinned (OpenSpec.ofChange fnExactTurnBeatSpec)

/-- ITS FALSE NEIGHBOUR: 'it returns false'. Refute it at one input. -/
def fnExactTurnBeatWrong : ChangeSpec := { name := "fnExactTurnBeat", fn := fun _ => fun
  | [d1, d2, d3] => { results := [.lit (.bool false)], args := [d1, d2, d3] }
  | _ => none }
def FnExactTurnBeatWrongFalsely : Prop := fnExactTurnBeatRow.holds Try.pinned (OpenSpec.ofChange fnExactTurnBeatWrong)

/-- 'laws.FnExactSeenBy': WHATEVER THE INPUT: true; the input reads as it did. -/
def fnExactSeenBySpec : ChangeSpec := { name := "fnExactSeenBy", fn := fun _ => fun
  | [d1, d2, d3] => { results := [.lit (.bool true)], args := [d1, d2, d3] }
  | _ => none }
def fnExactSeenByRow : OpenClaim := { program := "ytmhkechkkpppaaa", sum := "0943cb008e2a355d8ae54a9ab85bdd500f687ea16528264a1daf70da95178610", func := "loop.example/g01338/laws.FnExactSeenBy", spec := "fnExactSeenBy", unfollowed := true, recurses := true, apart := false }
def FnExactSeenBySaid : Prop := fnExactSeenByRow.holds Try.pinned (OpenSpec.ofChange fnExactSeenBySpec)

/-- ITS FALSE NEIGHBOUR: 'it returns false'. Refute it at one input. -/
def fnExactSeenByWrong : ChangeSpec := { name := "fnExactSeenBy", fn := fun _ => fun
  | [d1, d2, d3] => { results := [.lit (.bool false)], args := [d1, d2, d3] }
  | _ => none }
def FnExactSeenByWrongFalsely : Prop := fnExactSeenByRow.holds Try.pinned (OpenSpec.ofChange fnExactSeenByWrong)

/-- 'laws.FnExactMinutesOf': WHATEVER THE INPUT: true; the input reads as it did. -/
def fnExactMinutesOfSpec : ChangeSpec := { name := "fnExactMinutesOf", fn := fun _ => fun
  | [d1, d2, d3, d4] => { results := [.lit (.bool true)], args := [d1, d2, d3, d4] }
  | _ => none }
def fnExactMinutesOfRow : OpenClaim := { program := "ytmhkechkkpppaaa", sum := "0943cb008e2a355d8ae54a9ab85bdd500f687ea16528264a1daf70da95178610", func := "loop.example/g01338/laws.FnExactMinutesOf", spec := "fnExactMinutesOf", unfollowed := true, recurses := true, apart := false }
def FnExactMinutesOfSaid : Prop := fnExactMinutesOfRow.holds Try.pinned (OpenSpec.ofChange fnExactMinutesOfSpec)

/-- ITS FALSE NEIGHBOUR: 'it returns false'. Refute it at one input. -/
def fnExactMinutesOfWrong : ChangeSpec := { name := "fnExactMinutesOf", fn := fun _ => fun
  | [d1, d2, d3, d4] => { results := [.lit (.bool false)], args := [d1, d2, d3, d4] }
  | _ => none }
def FnExactMinutesOfWrongFalsely : Prop := fnExactMinutesOfRow.holds Try.pinned (OpenSpec.ofChange fnExactMinutesOfWrong)

/-- 'laws.FnExactGapWith': WHATEVER THE INPUT: true; the input reads as it did. -/
def fnExactGapWithSpec : ChangeSpec := { name := "fnExactGapWith", fn := fun _ => fun
  | [d1, d2, d3, d4, d5] => { results := [.lit (.bool true)], args := [d1, d2, d3, d4, d5] }
  | _ => none }
def fnExactGapWithRow : OpenClaim := { program := "ytmhkechkkpppaaa", sum := "0943cb008e2a355d8ae54a9ab85bdd500f687ea16528264a1daf70da95178610", func := "loop.example/g01338/laws.FnExactGapWith", spec := "fnExactGapWith", unfollowed := true, recurses := true, apart := false }
def FnExactGapWithSaid : Prop := fnExactGapWithRow.holds Try.pinned (OpenSpec.ofChange fnExactGapWithSpec)

/-- ITS FALSE NEIGHBOUR: 'it returns false'. Refute it at one input. -/
def fnExactGapWithWrong : ChangeSpec := { name := "fnExactGapWith", fn := fun _ => fun
  | [d1, d2, d3, d4, d5] => { results := [.lit (.bool false)], args := [d1, d2, d3, d4, d5] }
  | _ => none }
def FnExactGapWithWrongFalsely : Prop := fnExactGapWithRow.holds Try.pinned (OpenSpec.ofChange fnExactGapWithWrong)

/-- 'laws.FnExactGapOf': WHATEVER THE INPUT: true; the input reads as it did. -/
def fnExactGapOfSpec : ChangeSpec := { name := "fnExactGapOf", fn := fun _ => fun
  | [d1, d2, d3, d4] => { results := [.lit (.bool true)], args := [d1, d2, d3, d4] }
  | _ => none }
def fnExactGapOfRow : OpenClaim := { program := "ytmhkechkkpppaaa", sum := "0943cb008e2a355d8ae54a9ab85bdd500f687ea16528264a1daf70da95178610", func := "loop.example/g01338/laws.FnExactGapOf", spec := "fnExactGapOf", unfollowed := true, recurses := true, apart := false }
def FnExactGapOfSaid : Prop := fnExactGapOfRow.holds Try.pinned (OpenSpec.ofChange fnExactGapOfSpec)

/-- ITS FALSE NEIGHBOUR: 'it returns false'. Refute it at one input. -/
def fnExactGapOfWrong : ChangeSpec := { name := "fnExactGapOf", fn := fun _ => fun
  | [d1, d2, d3, d4] => { results := [.lit (.bool false)], args := [d1, d2, d3, d4] }
  | _ => none }
def FnExactGapOfWrongFalsely : Prop := fnExactGapOfRow.holds Try.pinned (OpenSpec.ofChange fnExactGapOfWrong)

/-- 'laws.FnExactCheckBeat': WHATEVER THE INPUT: true; the input reads as it did. -/
def fnExactCheckBeatSpec : ChangeSpec := { name := "fnExactCheckBeat", fn := fun _ => fun
  | [d1, d2, d3, d4] => { results := [.lit (.bool true)], args := [d1, d2, d3, d4] }
  | _ => none }
def fnExactCheckBeatRow : OpenClaim := { program := "ytmhkechkkpppaaa", sum := "0943cb008e2a355d8ae54a9ab85bdd500f687ea16528264a1daf70da95178610", func := "loop.example/g01338/laws.FnExactCheckBeat", spec := "fnExactCheckBeat", unfollowed := true, recurses := true, apart := false }
def FnExactCheckBeatSaid : Prop := fnExactCheckBeatRow.holds Try.pinned (OpenSpec.ofChange fnExactCheckBeatSpec)

/-- ITS FALSE NEIGHBOUR: 'it returns false'. Refute it at one input. -/
def fnExactCheckBeatWrong : ChangeSpec := { name := "fnExactCheckBeat", fn := fun _ => fun
  | [d1, d2, d3, d4] => { results := [.lit (.bool false)], args := [d1, d2, d3, d4] }
  | _ => none }
def FnExactCheckBeatWrongFalsely : Prop := fnExactCheckBeatRow.holds Try.pinned (OpenSpec.ofChange fnExactCheckBeatWrong)

/-- 'laws.FnExactWorstGap': WHATEVER THE INPUT: true; the input reads as it did. -/
def fnExactWorstGapSpec : ChangeSpec := { name := "fnExactWorstGap", fn := fun _ => fun
  | [d1, d2, d3, d4] => { results := [.lit (.bool true)], args := [d1, d2, d3, d4] }
  | _ => none }
def fnExactWorstGapRow : OpenClaim := { program := "ytmhkechkkpppaaa", sum := "0943cb008e2a355d8ae54a9ab85bdd500f687ea16528264a1daf70da95178610", func := "loop.example/g01338/laws.FnExactWorstGap", spec := "fnExactWorstGap", unfollowed := true, recurses := true, apart := false }
def FnExactWorstGapSaid : Prop := fnExactWorstGapRow.holds Try.pinned (OpenSpec.ofChange fnExactWorstGapSpec)

/-- ITS FALSE NEIGHBOUR: 'it returns false'. Refute it at one input. -/
def fnExactWorstGapWrong : ChangeSpec := { name := "fnExactWorstGap", fn := fun _ => fun
  | [d1, d2, d3, d4] => { results := [.lit (.bool false)], args := [d1, d2, d3, d4] }
  | _ => none }
def FnExactWorstGapWrongFalsely : Prop := fnExactWorstGapRow.holds Try.pinned (OpenSpec.ofChange fnExactWorstGapWrong)

/-- 'laws.FnExactWatchersFor': WHATEVER THE INPUT: true; the input reads as it did. -/
def fnExactWatchersForSpec : ChangeSpec := { name := "fnExactWatchersFor", fn := fun _ => fun
  | [d1, d2, d3, d4, d5] => { results := [.lit (.bool true)], args := [d1, d2, d3, d4, d5] }
  | _ => none }
def fnExactWatchersForRow : OpenClaim := { program := "ytmhkechkkpppaaa", sum := "0943cb008e2a355d8ae54a9ab85bdd500f687ea16528264a1daf70da95178610", func := "loop.example/g01338/laws.FnExactWatchersFor", spec := "fnExactWatchersFor", unfollowed := true, recurses := true, apart := false }
def FnExactWatchersForSaid : Prop := fnExactWatchersForRow.holds Try.pinned (OpenSpec.ofChange fnExactWatchersForSpec)

/-- ITS FALSE NEIGHBOUR: 'it returns false'. Refute it at one input. -/
def fnExactWatchersForWrong : ChangeSpec := { name := "fnExactWatchersFor", fn := fun _ => fun
  | [d1, d2, d3, d4, d5] => { results := [.lit (.bool false)], args := [d1, d2, d3, d4, d5] }
  | _ => none }
def FnExactWatchersForWrongFalsely : Prop := fnExactWatchersForRow.holds Try.pinned (OpenSpec.ofChange fnExactWatchersForWrong)

/- THE SECOND FORM. 'bulk': how many values and letters a reading holds, each counted each time it is reached (what is shared counts as often as it is met; a slice's spare places count too). A statement '..UptoSaid' is the law's where the arguments, and the package variables that the reading takes, are together of bulk at most 1048576: NARROWER than '..Said'. Prove '..Said' where nothing that the law and all that it calls make is longer than what came in: it says more and counts as full. Else prove '..UptoSaid'. A law counts once. -/
mutual
def uptoBulk {H : Type} : DataW H → Nat
  | .lit (.string bytes) => bytes.length + 1
  | .lit _ => 1
  | .nil => 1
  | .ptr d => uptoBulk d + 1
  | .slice elems spare => uptoBulkAll elems + uptoBulkAll spare + 1
  | .agg parts => uptoBulkAll parts + 1
  | .iface _ d => uptoBulk d + 1
  | .map entries => uptoBulkEntries entries + 1
  | .held _ => 1
def uptoBulkAll {H : Type} : List (DataW H) → Nat
  | [] => 0
  | d :: r => uptoBulk d + uptoBulkAll r
def uptoBulkEntries {H : Type} : List (Lit × DataW H) → Nat
  | [] => 0
  | x :: r => uptoBulkEntry x + uptoBulkEntries r
def uptoBulkEntry {H : Type} : Lit × DataW H → Nat
  | (.string bytes, d) => bytes.length + uptoBulk d + 1
  | (_, d) => uptoBulk d + 1
 end
def uptoSmall : (H : Type) → List (DataW H) → Bool := fun _ ds => decide (uptoBulkAll ds ≤ 1048576)
def OpenSpec.upto (s : _root_.Go.ChangeSpec) : _root_.Go.OpenSpec := { _root_.Go.OpenSpec.ofChange s with cond := some uptoSmall }

/-- 'laws.FnExactJoinBeats', WHERE WHAT IT READS IS OF BULK AT MOST 1048576: true; the input reads as it did. -/
def fnExactJoinBeatsUptoRow : OpenClaim := { program := "ytmhkechkkpppaaa", sum := "0943cb008e2a355d8ae54a9ab85bdd500f687ea16528264a1daf70da95178610", func := "loop.example/g01338/laws.FnExactJoinBeats", spec := "fnExactJoinBeats", apart := false, narrowed := true }
def FnExactJoinBeatsUptoSaid : Prop := fnExactJoinBeatsUptoRow.holds Try.pinned (OpenSpec.upto fnExactJoinBeatsSpec)

/-- 'laws.FnExactSeenAt', WHERE WHAT IT READS IS OF BULK AT MOST 1048576: true; the input reads as it did. -/
def fnExactSeenAtUptoRow : OpenClaim := { program := "ytmhkechkkpppaaa", sum := "0943cb008e2a355d8ae54a9ab85bdd500f687ea16528264a1daf70da95178610", func := "loop.example/g01338/laws.FnExactSeenAt", spec := "fnExactSeenAt", unfollowed := true, recurses := true, apart := false, narrowed := true }
def FnExactSeenAtUptoSaid : Prop := fnExactSeenAtUptoRow.holds Try.pinned (OpenSpec.upto fnExactSeenAtSpec)

/-- 'laws.FnExactTurnBeat', WHERE WHAT IT READS IS OF BULK AT MOST 1048576: true; the input reads as it did. -/
def fnExactTurnBeatUptoRow : OpenClaim := { program := "ytmhkechkkpppaaa", sum := "0943cb008e2a355d8ae54a9ab85bdd500f687ea16528264a1daf70da95178610", func := "loop.example/g01338/laws.FnExactTurnBeat", spec := "fnExactTurnBeat", unfollowed := true, recurses := true, apart := false, narrowed := true }
def FnExactTurnBeatUptoSaid : Prop := fnExactTurnBeatUptoRow.holds Try.pinned (OpenSpec.upto fnExactTurnBeatSpec)

/-- 'laws.FnExactSeenBy', WHERE WHAT IT READS IS OF BULK AT MOST 1048576: true; the input reads as it did. -/
def fnExactSeenByUptoRow : OpenClaim := { program := "ytmhkechkkpppaaa", sum := "0943cb008e2a355d8ae54a9ab85bdd500f687ea16528264a1daf70da95178610", func := "loop.example/g01338/laws.FnExactSeenBy", spec := "fnExactSeenBy", unfollowed := true, recurses := true, apart := false, narrowed := true }
def FnExactSeenByUptoSaid : Prop := fnExactSeenByUptoRow.holds Try.pinned (OpenSpec.upto fnExactSeenBySpec)

/-- 'laws.FnExactMinutesOf', WHERE WHAT IT READS IS OF BULK AT MOST 1048576: true; the input reads as it did. -/
def fnExactMinutesOfUptoRow : OpenClaim := { program := "ytmhkechkkpppaaa", sum := "0943cb008e2a355d8ae54a9ab85bdd500f687ea16528264a1daf70da95178610", func := "loop.example/g01338/laws.FnExactMinutesOf", spec := "fnExactMinutesOf", unfollowed := true, recurses := true, apart := false, narrowed := true }
def FnExactMinutesOfUptoSaid : Prop := fnExactMinutesOfUptoRow.holds Try.pinned (OpenSpec.upto fnExactMinutesOfSpec)

/-- 'laws.FnExactGapWith', WHERE WHAT IT READS IS OF BULK AT MOST 1048576: true; the input reads as it did. -/
def fnExactGapWithUptoRow : OpenClaim := { program := "ytmhkechkkpppaaa", sum := "0943cb008e2a355d8ae54a9ab85bdd500f687ea16528264a1daf70da95178610", func := "loop.example/g01338/laws.FnExactGapWith", spec := "fnExactGapWith", unfollowed := true, recurses := true, apart := false, narrowed := true }
def FnExactGapWithUptoSaid : Prop := fnExactGapWithUptoRow.holds Try.pinned (OpenSpec.upto fnExactGapWithSpec)

/-- 'laws.FnExactGapOf', WHERE WHAT IT READS IS OF BULK AT MOST 1048576: true; the input reads as it did. -/
def fnExactGapOfUptoRow : OpenClaim := { program := "ytmhkechkkpppaaa", sum := "0943cb008e2a355d8ae54a9ab85bdd500f687ea16528264a1daf70da95178610", func := "loop.example/g01338/laws.FnExactGapOf", spec := "fnExactGapOf", unfollowed := true, recurses := true, apart := false, narrowed := true }
def FnExactGapOfUptoSaid : Prop := fnExactGapOfUptoRow.holds Try.pinned (OpenSpec.upto fnExactGapOfSpec)

/-- 'laws.FnExactCheckBeat', WHERE WHAT IT READS IS OF BULK AT MOST 1048576: true; the input reads as it did. -/
def fnExactCheckBeatUptoRow : OpenClaim := { program := "ytmhkechkkpppaaa", sum := "0943cb008e2a355d8ae54a9ab85bdd500f687ea16528264a1daf70da95178610", func := "loop.example/g01338/laws.FnExactCheckBeat", spec := "fnExactCheckBeat", unfollowed := true, recurses := true, apart := false, narrowed := true }
def FnExactCheckBeatUptoSaid : Prop := fnExactCheckBeatUptoRow.holds Try.pinned (OpenSpec.upto fnExactCheckBeatSpec)

/-- 'laws.FnExactWorstGap', WHERE WHAT IT READS IS OF BULK AT MOST 1048576: true; the input reads as it did. -/
def fnExactWorstGapUptoRow : OpenClaim := { program := "ytmhkechkkpppaaa", sum := "0943cb008e2a355d8ae54a9ab85bdd500f687ea16528264a1daf70da95178610", func := "loop.example/g01338/laws.FnExactWorstGap", spec := "fnExactWorstGap", unfollowed := true, recurses := true, apart := false, narrowed := true }
def FnExactWorstGapUptoSaid : Prop := fnExactWorstGapUptoRow.holds Try.pinned (OpenSpec.upto fnExactWorstGapSpec)

/-- 'laws.FnExactWatchersFor', WHERE WHAT IT READS IS OF BULK AT MOST 1048576: true; the input reads as it did. -/
def fnExactWatchersForUptoRow : OpenClaim := { program := "ytmhkechkkpppaaa", sum := "0943cb008e2a355d8ae54a9ab85bdd500f687ea16528264a1daf70da95178610", func := "loop.example/g01338/laws.FnExactWatchersFor", spec := "fnExactWatchersFor", unfollowed := true, recurses := true, apart := false, narrowed := true }
def FnExactWatchersForUptoSaid : Prop := fnExactWatchersForUptoRow.holds Try.pinned (OpenSpec.upto fnExactWatchersForSpec)

end Rows
end Go.Proofs.Ytmhkechkkpppaaa
