/-
  No cell of these rows narrows 'for every input' (looked for: loops, veiled, ifaces, maps, wideKeys, modest, calm, conditions, laid).
  DERIVED. THE GIVEN ROWS OF THIS SEAT. 12 by the template 'for every input the law returns true; each argument reads behind the call as it read before'; 0 by the template 'total and deterministic' (their statements: YtlhiaofanejcoaaTotals.lean).
  GIVEN WITH THE SEED: the statements are not yours to turn. If you find one false, say at which input.
  Laid BY PROGRAM, IN A SANDBOX (cutbox-rows.mjs): the forced cells as the released guide's own fill.sh prints them over the translation 0bc82246b46b2e19… (all of the seat's roots in one cut). By AI agents, Wed Nov 11 2026. No macro, syntax, notation, axiom, sorry.
-/
import Derived.Test.YtlhiaofanejcoaaChecked
import GoSem.Claim
import GoSem.ClaimJoined
import GoSem.ClaimMapViews
import Derived.JoinedTies
import Derived.KernelRfl
namespace Go.Proofs.Ytlhiaofanejcoaa
/- THE CELL 'sum', in the pinned program and in every row, IS THE sha256 OF THE DUMP (.gsa) THAT YtlhiaofanejcoaaProg.lean LOADS. Nothing in Lean hashes anything: it is a label: what it is worth is what the hold of that sum in a sandbox is worth. -/
noncomputable def Try.pinned : Pinned := { name := "ytlhiaofanejcoaa", sum := "0bc82246b46b2e192b0a6f600450796511ad32044c44dbbc5a99e75a75104e31", checked := Try.checked }
namespace Rows
def none {H : Type} : Left H := { results := [], args := [] }

/-- 'laws.FnExactValidOwners': WHATEVER THE INPUT: true; the input reads as it did. -/
def fnExactValidOwnersSpec : ChangeSpec := { name := "fnExactValidOwners", fn := fun _ => fun
  | [d1, d2] => { results := [.lit (.bool true)], args := [d1, d2] }
  | _ => none }
def fnExactValidOwnersRow : OpenClaim := { program := "ytlhiaofanejcoaa", sum := "0bc82246b46b2e192b0a6f600450796511ad32044c44dbbc5a99e75a75104e31", func := "loop.example/g01338/laws.FnExactValidOwners", spec := "fnExactValidOwners", apart := false }
def FnExactValidOwnersSaid : Prop := fnExactValidOwnersRow.holds Try.pinned (OpenSpec.ofChange fnExactValidOwnersSpec)

/-- ITS FALSE NEIGHBOUR: 'it returns false'. Refute it at one input. -/
def fnExactValidOwnersWrong : ChangeSpec := { name := "fnExactValidOwners", fn := fun _ => fun
  | [d1, d2] => { results := [.lit (.bool false)], args := [d1, d2] }
  | _ => none }
def FnExactValidOwnersWrongFalsely : Prop := fnExactValidOwnersRow.holds Try.pinned (OpenSpec.ofChange fnExactValidOwnersWrong)

/-- 'laws.FnExactHungerOf': WHATEVER THE INPUT: true; the input reads as it did. -/
def fnExactHungerOfSpec : ChangeSpec := { name := "fnExactHungerOf", fn := fun _ => fun
  | [d1, d2] => { results := [.lit (.bool true)], args := [d1, d2] }
  | _ => none }
def fnExactHungerOfRow : OpenClaim := { program := "ytlhiaofanejcoaa", sum := "0bc82246b46b2e192b0a6f600450796511ad32044c44dbbc5a99e75a75104e31", func := "loop.example/g01338/laws.FnExactHungerOf", spec := "fnExactHungerOf", apart := false }
def FnExactHungerOfSaid : Prop := fnExactHungerOfRow.holds Try.pinned (OpenSpec.ofChange fnExactHungerOfSpec)

/-- ITS FALSE NEIGHBOUR: 'it returns false'. Refute it at one input. -/
def fnExactHungerOfWrong : ChangeSpec := { name := "fnExactHungerOf", fn := fun _ => fun
  | [d1, d2] => { results := [.lit (.bool false)], args := [d1, d2] }
  | _ => none }
def FnExactHungerOfWrongFalsely : Prop := fnExactHungerOfRow.holds Try.pinned (OpenSpec.ofChange fnExactHungerOfWrong)

/-- 'laws.FnExactAllLoss': WHATEVER THE INPUT: true; the input reads as it did. -/
def fnExactAllLossSpec : ChangeSpec := { name := "fnExactAllLoss", fn := fun _ => fun
  | [d1, d2] => { results := [.lit (.bool true)], args := [d1, d2] }
  | _ => none }
def fnExactAllLossRow : OpenClaim := { program := "ytlhiaofanejcoaa", sum := "0bc82246b46b2e192b0a6f600450796511ad32044c44dbbc5a99e75a75104e31", func := "loop.example/g01338/laws.FnExactAllLoss", spec := "fnExactAllLoss", apart := false }
def FnExactAllLossSaid : Prop := fnExactAllLossRow.holds Try.pinned (OpenSpec.ofChange fnExactAllLossSpec)

/-- ITS FALSE NEIGHBOUR: 'it returns false'. Refute it at one input. -/
def fnExactAllLossWrong : ChangeSpec := { name := "fnExactAllLoss", fn := fun _ => fun
  | [d1, d2] => { results := [.lit (.bool false)], args := [d1, d2] }
  | _ => none }
def FnExactAllLossWrongFalsely : Prop := fnExactAllLossRow.holds Try.pinned (OpenSpec.ofChange fnExactAllLossWrong)

/-- 'laws.FnExactLossOf': WHATEVER THE INPUT: true; the input reads as it did. -/
def fnExactLossOfSpec : ChangeSpec := { name := "fnExactLossOf", fn := fun _ => fun
  | [d1, d2] => { results := [.lit (.bool true)], args := [d1, d2] }
  | _ => none }
def fnExactLossOfRow : OpenClaim := { program := "ytlhiaofanejcoaa", sum := "0bc82246b46b2e192b0a6f600450796511ad32044c44dbbc5a99e75a75104e31", func := "loop.example/g01338/laws.FnExactLossOf", spec := "fnExactLossOf", apart := false }
def FnExactLossOfSaid : Prop := fnExactLossOfRow.holds Try.pinned (OpenSpec.ofChange fnExactLossOfSpec)

/-- ITS FALSE NEIGHBOUR: 'it returns false'. Refute it at one input. -/
def fnExactLossOfWrong : ChangeSpec := { name := "fnExactLossOf", fn := fun _ => fun
  | [d1, d2] => { results := [.lit (.bool false)], args := [d1, d2] }
  | _ => none }
def FnExactLossOfWrongFalsely : Prop := fnExactLossOfRow.holds Try.pinned (OpenSpec.ofChange fnExactLossOfWrong)

/-- 'laws.FnExactBareCells': WHATEVER THE INPUT: true; the input reads as it did. -/
def fnExactBareCellsSpec : ChangeSpec := { name := "fnExactBareCells", fn := fun _ => fun
  | [d1, d2] => { results := [.lit (.bool true)], args := [d1, d2] }
  | _ => none }
def fnExactBareCellsRow : OpenClaim := { program := "ytlhiaofanejcoaa", sum := "0bc82246b46b2e192b0a6f600450796511ad32044c44dbbc5a99e75a75104e31", func := "loop.example/g01338/laws.FnExactBareCells", spec := "fnExactBareCells", unfollowed := true, recurses := true, apart := false }
def FnExactBareCellsSaid : Prop := fnExactBareCellsRow.holds Try.pinned (OpenSpec.ofChange fnExactBareCellsSpec)

/-- ITS FALSE NEIGHBOUR: 'it returns false'. Refute it at one input. -/
def fnExactBareCellsWrong : ChangeSpec := { name := "fnExactBareCells", fn := fun _ => fun
  | [d1, d2] => { results := [.lit (.bool false)], args := [d1, d2] }
  | _ => none }
def FnExactBareCellsWrongFalsely : Prop := fnExactBareCellsRow.holds Try.pinned (OpenSpec.ofChange fnExactBareCellsWrong)

/-- 'laws.FnExactWorstCell': WHATEVER THE INPUT: true; the input reads as it did. -/
def fnExactWorstCellSpec : ChangeSpec := { name := "fnExactWorstCell", fn := fun _ => fun
  | [d1, d2] => { results := [.lit (.bool true)], args := [d1, d2] }
  | _ => none }
def fnExactWorstCellRow : OpenClaim := { program := "ytlhiaofanejcoaa", sum := "0bc82246b46b2e192b0a6f600450796511ad32044c44dbbc5a99e75a75104e31", func := "loop.example/g01338/laws.FnExactWorstCell", spec := "fnExactWorstCell", apart := false }
def FnExactWorstCellSaid : Prop := fnExactWorstCellRow.holds Try.pinned (OpenSpec.ofChange fnExactWorstCellSpec)

/-- ITS FALSE NEIGHBOUR: 'it returns false'. Refute it at one input. -/
def fnExactWorstCellWrong : ChangeSpec := { name := "fnExactWorstCell", fn := fun _ => fun
  | [d1, d2] => { results := [.lit (.bool false)], args := [d1, d2] }
  | _ => none }
def FnExactWorstCellWrongFalsely : Prop := fnExactWorstCellRow.holds Try.pinned (OpenSpec.ofChange fnExactWorstCellWrong)

/-- 'laws.FnExactPatchesOf': WHATEVER THE INPUT: true; the input reads as it did. -/
def fnExactPatchesOfSpec : ChangeSpec := { name := "fnExactPatchesOf", fn := fun _ => fun
  | [d1, d2, d3] => { results := [.lit (.bool true)], args := [d1, d2, d3] }
  | _ => none }
def fnExactPatchesOfRow : OpenClaim := { program := "ytlhiaofanejcoaa", sum := "0bc82246b46b2e192b0a6f600450796511ad32044c44dbbc5a99e75a75104e31", func := "loop.example/g01338/laws.FnExactPatchesOf", spec := "fnExactPatchesOf", unfollowed := true, recurses := true, apart := false }
def FnExactPatchesOfSaid : Prop := fnExactPatchesOfRow.holds Try.pinned (OpenSpec.ofChange fnExactPatchesOfSpec)

/-- ITS FALSE NEIGHBOUR: 'it returns false'. Refute it at one input. -/
def fnExactPatchesOfWrong : ChangeSpec := { name := "fnExactPatchesOf", fn := fun _ => fun
  | [d1, d2, d3] => { results := [.lit (.bool false)], args := [d1, d2, d3] }
  | _ => none }
def FnExactPatchesOfWrongFalsely : Prop := fnExactPatchesOfRow.holds Try.pinned (OpenSpec.ofChange fnExactPatchesOfWrong)

/-- 'laws.FnExactValidFlocks': WHATEVER THE INPUT: true; the input reads as it did. -/
def fnExactValidFlocksSpec : ChangeSpec := { name := "fnExactValidFlocks", fn := fun _ => fun
  | [d1, d2] => { results := [.lit (.bool true)], args := [d1, d2] }
  | _ => none }
def fnExactValidFlocksRow : OpenClaim := { program := "ytlhiaofanejcoaa", sum := "0bc82246b46b2e192b0a6f600450796511ad32044c44dbbc5a99e75a75104e31", func := "loop.example/g01338/laws.FnExactValidFlocks", spec := "fnExactValidFlocks", apart := false }
def FnExactValidFlocksSaid : Prop := fnExactValidFlocksRow.holds Try.pinned (OpenSpec.ofChange fnExactValidFlocksSpec)

/-- ITS FALSE NEIGHBOUR: 'it returns false'. Refute it at one input. -/
def fnExactValidFlocksWrong : ChangeSpec := { name := "fnExactValidFlocks", fn := fun _ => fun
  | [d1, d2] => { results := [.lit (.bool false)], args := [d1, d2] }
  | _ => none }
def FnExactValidFlocksWrongFalsely : Prop := fnExactValidFlocksRow.holds Try.pinned (OpenSpec.ofChange fnExactValidFlocksWrong)

/-- 'laws.FnExactDiaryOf': WHATEVER THE INPUT: true; the input reads as it did. -/
def fnExactDiaryOfSpec : ChangeSpec := { name := "fnExactDiaryOf", fn := fun _ => fun
  | [d1, d2] => { results := [.lit (.bool true)], args := [d1, d2] }
  | _ => none }
def fnExactDiaryOfRow : OpenClaim := { program := "ytlhiaofanejcoaa", sum := "0bc82246b46b2e192b0a6f600450796511ad32044c44dbbc5a99e75a75104e31", func := "loop.example/g01338/laws.FnExactDiaryOf", spec := "fnExactDiaryOf", apart := false }
def FnExactDiaryOfSaid : Prop := fnExactDiaryOfRow.holds Try.pinned (OpenSpec.ofChange fnExactDiaryOfSpec)

/-- ITS FALSE NEIGHBOUR: 'it returns false'. Refute it at one input. -/
def fnExactDiaryOfWrong : ChangeSpec := { name := "fnExactDiaryOf", fn := fun _ => fun
  | [d1, d2] => { results := [.lit (.bool false)], args := [d1, d2] }
  | _ => none }
def FnExactDiaryOfWrongFalsely : Prop := fnExactDiaryOfRow.holds Try.pinned (OpenSpec.ofChange fnExactDiaryOfWrong)

/-- 'laws.FnExactApplyEntry': WHATEVER THE INPUT: true; the input reads as it did. -/
def fnExactApplyEntrySpec : ChangeSpec := { name := "fnExactApplyEntry", fn := fun _ => fun
  | [d1, d2] => { results := [.lit (.bool true)], args := [d1, d2] }
  | _ => none }
def fnExactApplyEntryRow : OpenClaim := { program := "ytlhiaofanejcoaa", sum := "0bc82246b46b2e192b0a6f600450796511ad32044c44dbbc5a99e75a75104e31", func := "loop.example/g01338/laws.FnExactApplyEntry", spec := "fnExactApplyEntry", apart := false }
def FnExactApplyEntrySaid : Prop := fnExactApplyEntryRow.holds Try.pinned (OpenSpec.ofChange fnExactApplyEntrySpec)

/-- ITS FALSE NEIGHBOUR: 'it returns false'. Refute it at one input. -/
def fnExactApplyEntryWrong : ChangeSpec := { name := "fnExactApplyEntry", fn := fun _ => fun
  | [d1, d2] => { results := [.lit (.bool false)], args := [d1, d2] }
  | _ => none }
def FnExactApplyEntryWrongFalsely : Prop := fnExactApplyEntryRow.holds Try.pinned (OpenSpec.ofChange fnExactApplyEntryWrong)

/-- 'laws.FnExactPlotsOf': WHATEVER THE INPUT: true; the input reads as it did. -/
def fnExactPlotsOfSpec : ChangeSpec := { name := "fnExactPlotsOf", fn := fun _ => fun
  | [d1, d2, d3, d4] => { results := [.lit (.bool true)], args := [d1, d2, d3, d4] }
  | _ => none }
def fnExactPlotsOfRow : OpenClaim := { program := "ytlhiaofanejcoaa", sum := "0bc82246b46b2e192b0a6f600450796511ad32044c44dbbc5a99e75a75104e31", func := "loop.example/g01338/laws.FnExactPlotsOf", spec := "fnExactPlotsOf", unfollowed := true, recurses := true, apart := false }
def FnExactPlotsOfSaid : Prop := fnExactPlotsOfRow.holds Try.pinned (OpenSpec.ofChange fnExactPlotsOfSpec)

/-- ITS FALSE NEIGHBOUR: 'it returns false'. Refute it at one input. -/
def fnExactPlotsOfWrong : ChangeSpec := { name := "fnExactPlotsOf", fn := fun _ => fun
  | [d1, d2, d3, d4] => { results := [.lit (.bool false)], args := [d1, d2, d3, d4] }
  | _ => none }
def FnExactPlotsOfWrongFalsely : Prop := fnExactPlotsOfRow.holds Try.pinned (OpenSpec.ofChange fnExactPlotsOfWrong)

/-- 'laws.FnExactBirdsIn': WHATEVER THE INPUT: true; the input reads as it did. -/
def fnExactBirdsInSpec : ChangeSpec := { name := "fnExactBirdsIn", fn := fun _ => fun
  | [d1, d2] => { results := [.lit (.bool true)], args := [d1, d2] }
  | _ => none }
def fnExactBirdsInRow : OpenClaim := { program := "ytlhiaofanejcoaa", sum := "0bc82246b46b2e192b0a6f600450796511ad32044c44dbbc5a99e75a75104e31", func := "loop.example/g01338/laws.FnExactBirdsIn", spec := "fnExactBirdsIn", apart := false }
def FnExactBirdsInSaid : Prop := fnExactBirdsInRow.holds Try.pinned (OpenSpec.ofChange fnExactBirdsInSpec)

/-- ITS FALSE NEIGHBOUR: 'it returns false'. Refute it at one input. -/
def fnExactBirdsInWrong : ChangeSpec := { name := "fnExactBirdsIn", fn := fun _ => fun
  | [d1, d2] => { results := [.lit (.bool false)], args := [d1, d2] }
  | _ => none }
def FnExactBirdsInWrongFalsely : Prop := fnExactBirdsInRow.holds Try.pinned (OpenSpec.ofChange fnExactBirdsInWrong)

/- THE SECOND FORM. 'bulk': how many values and letters a reading holds, each counted each time it is reached (what is shared counts as often as it is met; a slice's spare places count too). A statement '..UptoSaid' is the law's where the arguments, and the package variables that the reading takes, are together of bulk at most 1048576: NARROWER than '..Said'. Prove '..Said' where nothing that the law and all that it calls make is longer than what came in: it says more and counts as full. Else prove '..UptoSaid'. A law counts once. -/
mutual
def uptoBulk {H : Type} : DataW H → Nat
  | .lit (.string bytes) => bytes.length + 1
  | .lit _ => 1
  | .nil => 1
  | .ptr d => uptoBulk d + 1
  | .slice elems spare => uptoBulkAll elems + uptoBulkAll spare + 1
  | .agg parts => uptoBulkAll parts + 1
  | .iface _ d => uptoBulk d + 1
  | .map entries => uptoBulkEntries entries + 1
  | .held _ => 1
def uptoBulkAll {H : Type} : List (DataW H) → Nat
  | [] => 0
  | d :: r => uptoBulk d + uptoBulkAll r
def uptoBulkEntries {H : Type} : List (Lit × DataW H) → Nat
  | [] => 0
  | x :: r => uptoBulkEntry x + uptoBulkEntries r
def uptoBulkEntry {H : Type} : Lit × DataW H → Nat
  | (.string bytes, d) => bytes.length + uptoBulk d + 1
  | (_, d) => uptoBulk d + 1
 end
def uptoSmall : (H : Type) → List (DataW H) → Bool := fun _ ds => decide (uptoBulkAll ds ≤ 1048576)
def OpenSpec.upto (s : _root_.Go.ChangeSpec) : _root_.Go.OpenSpec := { _root_.Go.OpenSpec.ofChange s with cond := some uptoSmall }

/-- 'laws.FnExactValidOwners', WHERE WHAT IT READS IS OF BULK AT MOST 1048576: true; the input reads as it did. -/
def fnExactValidOwnersUptoRow : OpenClaim := { program := "ytlhiaofanejcoaa", sum := "0bc82246b46b2e192b0a6f600450796511ad32044c44dbbc5a99e75a75104e31", func := "loop.example/g01338/laws.FnExactValidOwners", spec := "fnExactValidOwners", apart := false, narrowed := true }
def FnExactValidOwnersUptoSaid : Prop := fnExactValidOwnersUptoRow.holds Try.pinned (OpenSpec.upto fnExactValidOwnersSpec)

/-- 'laws.FnExactHungerOf', WHERE WHAT IT READS IS OF BULK AT MOST 1048576: true; the input reads as it did. -/
def fnExactHungerOfUptoRow : OpenClaim := { program := "ytlhiaofanejcoaa", sum := "0bc82246b46b2e192b0a6f600450796511ad32044c44dbbc5a99e75a75104e31", func := "loop.example/g01338/laws.FnExactHungerOf", spec := "fnExactHungerOf", apart := false, narrowed := true }
def FnExactHungerOfUptoSaid : Prop := fnExactHungerOfUptoRow.holds Try.pinned (OpenSpec.upto fnExactHungerOfSpec)

/-- 'laws.FnExactAllLoss', WHERE WHAT IT READS IS OF BULK AT MOST 1048576: true; the input reads as it did. -/
def fnExactAllLossUptoRow : OpenClaim := { program := "ytlhiaofanejcoaa", sum := "0bc82246b46b2e192b0a6f600450796511ad32044c44dbbc5a99e75a75104e31", func := "loop.example/g01338/laws.FnExactAllLoss", spec := "fnExactAllLoss", apart := false, narrowed := true }
def FnExactAllLossUptoSaid : Prop := fnExactAllLossUptoRow.holds Try.pinned (OpenSpec.upto fnExactAllLossSpec)

/-- 'laws.FnExactLossOf', WHERE WHAT IT READS IS OF BULK AT MOST 1048576: true; the input reads as it did. -/
def fnExactLossOfUptoRow : OpenClaim := { program := "ytlhiaofanejcoaa", sum := "0bc82246b46b2e192b0a6f600450796511ad32044c44dbbc5a99e75a75104e31", func := "loop.example/g01338/laws.FnExactLossOf", spec := "fnExactLossOf", apart := false, narrowed := true }
def FnExactLossOfUptoSaid : Prop := fnExactLossOfUptoRow.holds Try.pinned (OpenSpec.upto fnExactLossOfSpec)

/-- 'laws.FnExactBareCells', WHERE WHAT IT READS IS OF BULK AT MOST 1048576: true; the input reads as it did. -/
def fnExactBareCellsUptoRow : OpenClaim := { program := "ytlhiaofanejcoaa", sum := "0bc82246b46b2e192b0a6f600450796511ad32044c44dbbc5a99e75a75104e31", func := "loop.example/g01338/laws.FnExactBareCells", spec := "fnExactBareCells", unfollowed := true, recurses := true, apart := false, narrowed := true }
def FnExactBareCellsUptoSaid : Prop := fnExactBareCellsUptoRow.holds Try.pinned (OpenSpec.upto fnExactBareCellsSpec)

/-- 'laws.FnExactWorstCell', WHERE WHAT IT READS IS OF BULK AT MOST 1048576: true; the input reads as it did. -/
def fnExactWorstCellUptoRow : OpenClaim := { program := "ytlhiaofanejcoaa", sum := "0bc82246b46b2e192b0a6f600450796511ad32044c44dbbc5a99e75a75104e31", func := "loop.example/g01338/laws.FnExactWorstCell", spec := "fnExactWorstCell", apart := false, narrowed := true }
def FnExactWorstCellUptoSaid : Prop := fnExactWorstCellUptoRow.holds Try.pinned (OpenSpec.upto fnExactWorstCellSpec)

/-- 'laws.FnExactPatchesOf', WHERE WHAT IT READS IS OF BULK AT MOST 1048576: true; the input reads as it did. -/
def fnExactPatchesOfUptoRow : OpenClaim := { program := "ytlhiaofanejcoaa", sum := "0bc82246b46b2e192b0a6f600450796511ad32044c44dbbc5a99e75a75104e31", func := "loop.example/g01338/laws.FnExactPatchesOf", spec := "fnExactPatchesOf", unfollowed := true, recurses := true, apart := false, narrowed := true }
def FnExactPatchesOfUptoSaid : Prop := fnExactPatchesOfUptoRow.holds Try.pinned (OpenSpec.upto fnExactPatchesOfSpec)

/-- 'laws.FnExactValidFlocks', WHERE WHAT IT READS IS OF BULK AT MOST 1048576: true; the input reads as it did. -/
def fnExactValidFlocksUptoRow : OpenClaim := { program := "ytlhiaofanejcoaa", sum := "0bc82246b46b2e192b0a6f600450796511ad32044c44dbbc5a99e75a75104e31", func := "loop.example/g01338/laws.FnExactValidFlocks", spec := "fnExactValidFlocks", apart := false, narrowed := true }
def FnExactValidFlocksUptoSaid : Prop := fnExactValidFlocksUptoRow.holds Try.pinned (OpenSpec.upto fnExactValidFlocksSpec)

/-- 'laws.FnExactDiaryOf', WHERE WHAT IT READS IS OF BULK AT MOST 1048576: true; the input reads as it did. -/
def fnExactDiaryOfUptoRow : OpenClaim := { program := "ytlhiaofanejcoaa", sum := "0bc82246b46b2e192b0a6f600450796511ad32044c44dbbc5a99e75a75104e31", func := "loop.example/g01338/laws.FnExactDiaryOf", spec := "fnExactDiaryOf", apart := false, narrowed := true }
def FnExactDiaryOfUptoSaid : Prop := fnExactDiaryOfUptoRow.holds Try.pinned (OpenSpec.upto fnExactDiaryOfSpec)

/-- 'laws.FnExactApplyEntry', WHERE WHAT IT READS IS OF BULK AT MOST 1048576: true; the input reads as it did. -/
def fnExactApplyEntryUptoRow : OpenClaim := { program := "ytlhiaofanejcoaa", sum := "0bc82246b46b2e192b0a6f600450796511ad32044c44dbbc5a99e75a75104e31", func := "loop.example/g01338/laws.FnExactApplyEntry", spec := "fnExactApplyEntry", apart := false, narrowed := true }
def FnExactApplyEntryUptoSaid : Prop := fnExactApplyEntryUptoRow.holds Try.pinned (OpenSpec.upto fnExactApplyEntrySpec)

/-- 'laws.FnExactPlotsOf', WHERE WHAT IT READS IS OF BULK AT MOST 1048576: true; the input reads as it did. -/
def fnExactPlotsOfUptoRow : OpenClaim := { program := "ytlhiaofanejcoaa", sum := "0bc82246b46b2e192b0a6f600450796511ad32044c44dbbc5a99e75a75104e31", func := "loop.example/g01338/laws.FnExactPlotsOf", spec := "fnExactPlotsOf", unfollowed := true, recurses := true, apart := false, narrowed := true }
def FnExactPlotsOfUptoSaid : Prop := fnExactPlotsOfUptoRow.holds Try.pinned (OpenSpec.upto fnExactPlotsOfSpec)

/-- 'laws.FnExactBirdsIn', WHERE WHAT IT READS IS OF BULK AT MOST 1048576: true; the input reads as it did. -/
def fnExactBirdsInUptoRow : OpenClaim := { program := "ytlhiaofanejcoaa", sum := "0bc82246b46b2e192b0a6f600450796511ad32044c44dbbc5a99e75a75104e31", func := "loop.example/g01338/laws.FnExactBirdsIn", spec := "fnExactBirdsIn", apart := false, narrowed := true }
def FnExactBirdsInUptoSaid : Prop := fnExactBirdsInUptoRow.holds Try.pinned (OpenSpec.upto fnExactBirdsInSpec)

end Rows
end Go.Proofs.Ytlhiaofanejcoaa
