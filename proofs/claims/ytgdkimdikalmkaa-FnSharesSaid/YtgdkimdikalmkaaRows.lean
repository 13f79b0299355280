/-
  No cell of these rows narrows 'for every input' (looked for: loops, veiled, ifaces, maps, wideKeys, modest, calm, conditions, laid).
  DERIVED. THE GIVEN ROWS OF THIS SEAT. 12 by the template 'for every input the law returns true; each argument reads behind the call as it read before'; 0 by the template 'total and deterministic' (their statements: YtgdkimdikalmkaaTotals.lean).
  GIVEN WITH THE SEED: the statements are not yours to turn. If you find one false, say at which input.
  Laid BY PROGRAM, IN A SANDBOX (cutbox-rows.mjs): the forced cells as the released guide's own fill.sh prints them over the translation 1f0a0b09d49bc9f6… (all of the seat's roots in one cut). By AI agents, Wed Nov 11 2026. No macro, syntax, notation, axiom, sorry.
-/
import Derived.Test.YtgdkimdikalmkaaChecked
import GoSem.Claim
import GoSem.ClaimJoined
import GoSem.ClaimMapViews
import Derived.JoinedTies
import Derived.KernelRfl
namespace Go.Proofs.Ytgdkimdikalmkaa
/- THE CELL 'sum', in the pinned program and in every row, IS THE sha256 OF THE DUMP (.gsa) THAT YtgdkimdikalmkaaProg.lean LOADS. Nothing in Lean hashes anything: it is a label: what it is worth is what the hold of that sum in a sandbox is worth. -/
noncomputable def Try.pinned : Pinned := { name := "ytgdkimdikalmkaa", sum := "1f0a0b09d49bc9f60e3ecbab5cbf5778b011b76642dc5e5bee554b06d950cfbf", checked := Try.checked }
namespace Rows
def none {H : Type} : Left H := { results := [], args := [] }

/-- 'laws.FnExactStoreAfter': WHATEVER THE INPUT: true; the input reads as it did. -/
def fnExactStoreAfterSpec : ChangeSpec := { name := "fnExactStoreAfter", fn := fun _ => fun
  | [d1, d2, d3, d4] => { results := [.lit (.bool true)], args := [d1, d2, d3, d4] }
  | _ => none }
def fnExactStoreAfterRow : OpenClaim := { program := "ytgdkimdikalmkaa", sum := "1f0a0b09d49bc9f60e3ecbab5cbf5778b011b76642dc5e5bee554b06d950cfbf", func := "loop.example/g01338/laws.FnExactStoreAfter", spec := "fnExactStoreAfter", apart := false }
def FnExactStoreAfterSaid : Prop := fnExactStoreAfterRow.holds Try.pinned (OpenSpec.ofChange fnExactStoreAfterSpec)

/-- ITS FALSE NEIGHBOUR: 'it returns false'. Refute it at one input. -/
def fnExactStoreAfterWrong : ChangeSpec := { name := "fnExactStoreAfter", fn := fun _ => fun
  | [d1, d2, d3, d4] => { results := [.lit (.bool false)], args := [d1, d2, d3, d4] }
  | _ => none }
def FnExactStoreAfterWrongFalsely : Prop := fnExactStoreAfterRow.holds Try.pinned (OpenSpec.ofChange fnExactStoreAfterWrong)

/-- 'laws.FnExactDaysOfStore': WHATEVER THE INPUT: true; the input reads as it did. -/
def fnExactDaysOfStoreSpec : ChangeSpec := { name := "fnExactDaysOfStore", fn := fun _ => fun
  | [d1, d2, d3, d4] => { results := [.lit (.bool true)], args := [d1, d2, d3, d4] }
  | _ => none }
def fnExactDaysOfStoreRow : OpenClaim := { program := "ytgdkimdikalmkaa", sum := "1f0a0b09d49bc9f60e3ecbab5cbf5778b011b76642dc5e5bee554b06d950cfbf", func := "loop.example/g01338/laws.FnExactDaysOfStore", spec := "fnExactDaysOfStore", apart := false }
def FnExactDaysOfStoreSaid : Prop := fnExactDaysOfStoreRow.holds Try.pinned (OpenSpec.ofChange fnExactDaysOfStoreSpec)

/-- ITS FALSE NEIGHBOUR: 'it returns false'. Refute it at one input. -/
def fnExactDaysOfStoreWrong : ChangeSpec := { name := "fnExactDaysOfStore", fn := fun _ => fun
  | [d1, d2, d3, d4] => { results := [.lit (.bool false)], args := [d1, d2, d3, d4] }
  | _ => none }
def FnExactDaysOfStoreWrongFalsely : Prop := fnExactDaysOfStoreRow.holds Try.pinned (OpenSpec.ofChange fnExactDaysOfStoreWrong)

/-- 'laws.FnExactValidPlots': WHATEVER THE INPUT: true; the input reads as it did. -/
def fnExactValidPlotsSpec : ChangeSpec := { name := "fnExactValidPlots", fn := fun _ => fun
  | [d] => { results := [.lit (.bool true)], args := [d] }
  | _ => none }
def fnExactValidPlotsRow : OpenClaim := { program := "ytgdkimdikalmkaa", sum := "1f0a0b09d49bc9f60e3ecbab5cbf5778b011b76642dc5e5bee554b06d950cfbf", func := "loop.example/g01338/laws.FnExactValidPlots", spec := "fnExactValidPlots", apart := false }
def FnExactValidPlotsSaid : Prop := fnExactValidPlotsRow.holds Try.pinned (OpenSpec.ofChange fnExactValidPlotsSpec)

/-- ITS FALSE NEIGHBOUR: 'it returns false'. Refute it at one input. -/
def fnExactValidPlotsWrong : ChangeSpec := { name := "fnExactValidPlots", fn := fun _ => fun
  | [d] => { results := [.lit (.bool false)], args := [d] }
  | _ => none }
def FnExactValidPlotsWrongFalsely : Prop := fnExactValidPlotsRow.holds Try.pinned (OpenSpec.ofChange fnExactValidPlotsWrong)

/-- 'laws.FnStores': WHATEVER THE INPUT: true; the input reads as it did. -/
def fnStoresSpec : ChangeSpec := { name := "fnStores", fn := fun _ => fun
  | [d1, d2] => { results := [.lit (.bool true)], args := [d1, d2] }
  | _ => none }
def fnStoresRow : OpenClaim := { program := "ytgdkimdikalmkaa", sum := "1f0a0b09d49bc9f60e3ecbab5cbf5778b011b76642dc5e5bee554b06d950cfbf", func := "loop.example/g01338/laws.FnStores", spec := "fnStores", apart := false }
def FnStoresSaid : Prop := fnStoresRow.holds Try.pinned (OpenSpec.ofChange fnStoresSpec)

/-- ITS FALSE NEIGHBOUR: 'it returns false'. Refute it at one input. -/
def fnStoresWrong : ChangeSpec := { name := "fnStores", fn := fun _ => fun
  | [d1, d2] => { results := [.lit (.bool false)], args := [d1, d2] }
  | _ => none }
def FnStoresWrongFalsely : Prop := fnStoresRow.holds Try.pinned (OpenSpec.ofChange fnStoresWrong)

/-- 'laws.FnExactCheckAwards': WHATEVER THE INPUT: true; the input reads as it did. -/
def fnExactCheckAwardsSpec : ChangeSpec := { name := "fnExactCheckAwards", fn := fun _ => fun
  | [d1, d2, d3] => { results := [.lit (.bool true)], args := [d1, d2, d3] }
  | _ => none }
def fnExactCheckAwardsRow : OpenClaim := { program := "ytgdkimdikalmkaa", sum := "1f0a0b09d49bc9f60e3ecbab5cbf5778b011b76642dc5e5bee554b06d950cfbf", func := "loop.example/g01338/laws.FnExactCheckAwards", spec := "fnExactCheckAwards", unfollowed := true, recurses := true, apart := false }
def FnExactCheckAwardsSaid : Prop := fnExactCheckAwardsRow.holds Try.pinned (OpenSpec.ofChange fnExactCheckAwardsSpec)

/-- ITS FALSE NEIGHBOUR: 'it returns false'. Refute it at one input. -/
def fnExactCheckAwardsWrong : ChangeSpec := { name := "fnExactCheckAwards", fn := fun _ => fun
  | [d1, d2, d3] => { results := [.lit (.bool false)], args := [d1, d2, d3] }
  | _ => none }
def FnExactCheckAwardsWrongFalsely : Prop := fnExactCheckAwardsRow.holds Try.pinned (OpenSpec.ofChange fnExactCheckAwardsWrong)

/-- 'laws.FnExactCheckShares': WHATEVER THE INPUT: true; the input reads as it did. -/
def fnExactCheckSharesSpec : ChangeSpec := { name := "fnExactCheckShares", fn := fun _ => fun
  | [d1, d2, d3] => { results := [.lit (.bool true)], args := [d1, d2, d3] }
  | _ => none }
def fnExactCheckSharesRow : OpenClaim := { program := "ytgdkimdikalmkaa", sum := "1f0a0b09d49bc9f60e3ecbab5cbf5778b011b76642dc5e5bee554b06d950cfbf", func := "loop.example/g01338/laws.FnExactCheckShares", spec := "fnExactCheckShares", unfollowed := true, recurses := true, apart := false }
def FnExactCheckSharesSaid : Prop := fnExactCheckSharesRow.holds Try.pinned (OpenSpec.ofChange fnExactCheckSharesSpec)

/-- ITS FALSE NEIGHBOUR: 'it returns false'. Refute it at one input. -/
def fnExactCheckSharesWrong : ChangeSpec := { name := "fnExactCheckShares", fn := fun _ => fun
  | [d1, d2, d3] => { results := [.lit (.bool false)], args := [d1, d2, d3] }
  | _ => none }
def FnExactCheckSharesWrongFalsely : Prop := fnExactCheckSharesRow.holds Try.pinned (OpenSpec.ofChange fnExactCheckSharesWrong)

/-- 'laws.FnExactWorthOn': WHATEVER THE INPUT: true; the input reads as it did. -/
def fnExactWorthOnSpec : ChangeSpec := { name := "fnExactWorthOn", fn := fun _ => fun
  | [d1, d2, d3] => { results := [.lit (.bool true)], args := [d1, d2, d3] }
  | _ => none }
def fnExactWorthOnRow : OpenClaim := { program := "ytgdkimdikalmkaa", sum := "1f0a0b09d49bc9f60e3ecbab5cbf5778b011b76642dc5e5bee554b06d950cfbf", func := "loop.example/g01338/laws.FnExactWorthOn", spec := "fnExactWorthOn", apart := false }
def FnExactWorthOnSaid : Prop := fnExactWorthOnRow.holds Try.pinned (OpenSpec.ofChange fnExactWorthOnSpec)

/-- ITS FALSE NEIGHBOUR: 'it returns false'. Refute it at one input. -/
def fnExactWorthOnWrong : ChangeSpec := { name := "fnExactWorthOn", fn := fun _ => fun
  | [d1, d2, d3] => { results := [.lit (.bool false)], args := [d1, d2, d3] }
  | _ => none }
def FnExactWorthOnWrongFalsely : Prop := fnExactWorthOnRow.holds Try.pinned (OpenSpec.ofChange fnExactWorthOnWrong)

/-- 'laws.FnExactBestDay': WHATEVER THE INPUT: true; the input reads as it did. -/
def fnExactBestDaySpec : ChangeSpec := { name := "fnExactBestDay", fn := fun _ => fun
  | [d1, d2, d3] => { results := [.lit (.bool true)], args := [d1, d2, d3] }
  | _ => none }
def fnExactBestDayRow : OpenClaim := { program := "ytgdkimdikalmkaa", sum := "1f0a0b09d49bc9f60e3ecbab5cbf5778b011b76642dc5e5bee554b06d950cfbf", func := "loop.example/g01338/laws.FnExactBestDay", spec := "fnExactBestDay", apart := false }
def FnExactBestDaySaid : Prop := fnExactBestDayRow.holds Try.pinned (OpenSpec.ofChange fnExactBestDaySpec)

/-- ITS FALSE NEIGHBOUR: 'it returns false'. Refute it at one input. -/
def fnExactBestDayWrong : ChangeSpec := { name := "fnExactBestDay", fn := fun _ => fun
  | [d1, d2, d3] => { results := [.lit (.bool false)], args := [d1, d2, d3] }
  | _ => none }
def FnExactBestDayWrongFalsely : Prop := fnExactBestDayRow.holds Try.pinned (OpenSpec.ofChange fnExactBestDayWrong)

/-- 'laws.FnExactEqualAwards': WHATEVER THE INPUT: true; the input reads as it did. -/
def fnExactEqualAwardsSpec : ChangeSpec := { name := "fnExactEqualAwards", fn := fun _ => fun
  | [d1, d2] => { results := [.lit (.bool true)], args := [d1, d2] }
  | _ => none }
def fnExactEqualAwardsRow : OpenClaim := { program := "ytgdkimdikalmkaa", sum := "1f0a0b09d49bc9f60e3ecbab5cbf5778b011b76642dc5e5bee554b06d950cfbf", func := "loop.example/g01338/laws.FnExactEqualAwards", spec := "fnExactEqualAwards", unfollowed := true, recurses := true, apart := false }
def FnExactEqualAwardsSaid : Prop := fnExactEqualAwardsRow.holds Try.pinned (OpenSpec.ofChange fnExactEqualAwardsSpec)

/-- ITS FALSE NEIGHBOUR: 'it returns false'. Refute it at one input. -/
def fnExactEqualAwardsWrong : ChangeSpec := { name := "fnExactEqualAwards", fn := fun _ => fun
  | [d1, d2] => { results := [.lit (.bool false)], args := [d1, d2] }
  | _ => none }
def FnExactEqualAwardsWrongFalsely : Prop := fnExactEqualAwardsRow.holds Try.pinned (OpenSpec.ofChange fnExactEqualAwardsWrong)

/-- 'laws.FnExactWorthBound': WHATEVER THE INPUT: true; the input reads as it did. -/
def fnExactWorthBoundSpec : ChangeSpec := { name := "fnExactWorthBound", fn := fun _ => fun
  | [d1, d2] => { results := [.lit (.bool true)], args := [d1, d2] }
  | _ => none }
def fnExactWorthBoundRow : OpenClaim := { program := "ytgdkimdikalmkaa", sum := "1f0a0b09d49bc9f60e3ecbab5cbf5778b011b76642dc5e5bee554b06d950cfbf", func := "loop.example/g01338/laws.FnExactWorthBound", spec := "fnExactWorthBound", apart := false }
def FnExactWorthBoundSaid : Prop := fnExactWorthBoundRow.holds Try.pinned (OpenSpec.ofChange fnExactWorthBoundSpec)

/-- ITS FALSE NEIGHBOUR: 'it returns false'. Refute it at one input. -/
def fnExactWorthBoundWrong : ChangeSpec := { name := "fnExactWorthBound", fn := fun _ => fun
  | [d1, d2] => { results := [.lit (.bool false)], args := [d1, d2] }
  | _ => none }
def FnExactWorthBoundWrongFalsely : Prop := fnExactWorthBoundRow.holds Try.pinned (OpenSpec.ofChange fnExactWorthBoundWrong)

/-- 'laws.FnExactSharesOf': WHATEVER THE INPUT: true; the input reads as it did. -/
def fnExactSharesOfSpec : ChangeSpec := { name := "fnExactSharesOf", fn := fun _ => fun
  | [d1, d2] => { results := [.lit (.bool true)], args := [d1, d2] }
  | _ => none }
def fnExactSharesOfRow : OpenClaim := { program := "ytgdkimdikalmkaa", sum := "1f0a0b09d49bc9f60e3ecbab5cbf5778b011b76642dc5e5bee554b06d950cfbf", func := "loop.example/g01338/laws.FnExactSharesOf", spec := "fnExactSharesOf", unfollowed := true, recurses := true, apart := false }
def FnExactSharesOfSaid : Prop := fnExactSharesOfRow.holds Try.pinned (OpenSpec.ofChange fnExactSharesOfSpec)

/-- ITS FALSE NEIGHBOUR: 'it returns false'. Refute it at one input. -/
def fnExactSharesOfWrong : ChangeSpec := { name := "fnExactSharesOf", fn := fun _ => fun
  | [d1, d2] => { results := [.lit (.bool false)], args := [d1, d2] }
  | _ => none }
def FnExactSharesOfWrongFalsely : Prop := fnExactSharesOfRow.holds Try.pinned (OpenSpec.ofChange fnExactSharesOfWrong)

/-- 'laws.FnShares': WHATEVER THE INPUT: true; the input reads as it did. -/
def fnSharesSpec : ChangeSpec := { name := "fnShares", fn := fun _ => fun
  | [d1, d2] => { results := [.lit (.bool true)], args := [d1, d2] }
  | _ => none }
def fnSharesRow : OpenClaim := { program := "ytgdkimdikalmkaa", sum := "1f0a0b09d49bc9f60e3ecbab5cbf5778b011b76642dc5e5bee554b06d950cfbf", func := "loop.example/g01338/laws.FnShares", spec := "fnShares", unfollowed := true, recurses := true, apart := false }
def FnSharesSaid : Prop := fnSharesRow.holds Try.pinned (OpenSpec.ofChange fnSharesSpec)

/-- ITS FALSE NEIGHBOUR: 'it returns false'. Refute it at one input. -/
def fnSharesWrong : ChangeSpec := { name := "fnShares", fn := fun _ => fun
  | [d1, d2] => { results := [.lit (.bool false)], args := [d1, d2] }
  | _ => none }
def FnSharesWrongFalsely : Prop := fnSharesRow.holds Try.pinned (OpenSpec.ofChange fnSharesWrong)

/- THE SECOND FORM. 'bulk': how many values and letters a reading holds, each counted each time it is reached (what is shared counts as often as it is met; a slice's spare places count too). A statement '..UptoSaid' is the law's where the arguments, and the package variables that the reading takes, are together of bulk at most 1048576: NARROWER than '..Said'. Prove '..Said' where nothing that the law and all that it calls make is longer than what came in: it says more and counts as full. Else prove '..UptoSaid'. A law counts once. -/
mutual
def uptoBulk {H : Type} : DataW H → Nat
  | .lit (.string bytes) => bytes.length + 1
  | .lit _ => 1
  | .nil => 1
  | .ptr d => uptoBulk d + 1
  | .slice elems spare => uptoBulkAll elems + uptoBulkAll spare + 1
  | .agg parts => uptoBulkAll parts + 1
  | .iface _ d => uptoBulk d + 1
  | .map entries => uptoBulkEntries entries + 1
  | .held _ => 1
def uptoBulkAll {H : Type} : List (DataW H) → Nat
  | [] => 0
  | d :: r => uptoBulk d + uptoBulkAll r
def uptoBulkEntries {H : Type} : List (Lit × DataW H) → Nat
  | [] => 0
  | x :: r => uptoBulkEntry x + uptoBulkEntries r
def uptoBulkEntry {H : Type} : Lit × DataW H → Nat
  | (.string bytes, d) => bytes.length + uptoBulk d + 1
  | (_, d) => uptoBulk d + 1
 end
def uptoSmall : (H : Type) → List (DataW H) → Bool := fun _ ds => decide (uptoBulkAll ds ≤ 1048576)
def OpenSpec.upto (s : _root_.Go.ChangeSpec) : _root_.Go.OpenSpec := { _root_.Go.OpenSpec.ofChange s with cond := some uptoSmall }

/-- 'laws.FnExactStoreAfter', WHERE WHAT IT READS IS OF BULK AT MOST 1048576: true; the input reads as it did. -/
def fnExactStoreAfterUptoRow : OpenClaim := { program := "ytgdkimdikalmkaa", sum := "1f0a0b09d49bc9f60e3ecbab5cbf5778b011b76642dc5e5bee554b06d950cfbf", func := "loop.example/g01338/laws.FnExactStoreAfter", spec := "fnExactStoreAfter", apart := false, narrowed := true }
def FnExactStoreAfterUptoSaid : Prop := fnExactStoreAfterUptoRow.holds Try.pinned (OpenSpec.upto fnExactStoreAfterSpec)

/-- 'laws.FnExactDaysOfStore', WHERE WHAT IT READS IS OF BULK AT MOST 1048576: true; the input reads as it did. -/
def fnExactDaysOfStoreUptoRow : OpenClaim := { program := "ytgdkimdikalmkaa", sum := "1f0a0b09d49bc9f60e3ecbab5cbf5778b011b76642dc5e5bee554b06d950cfbf", func := "loop.example/g01338/laws.FnExactDaysOfStore", spec := "fnExactDaysOfStore", apart := false, narrowed := true }
def FnExactDaysOfStoreUptoSaid : Prop := fnExactDaysOfStoreUptoRow.holds Try.pinned (OpenSpec.upto fnExactDaysOfStoreSpec)

/-- 'laws.FnExactValidPlots', WHERE WHAT IT READS IS OF BULK AT MOST 1048576: true; the input reads as it did. -/
def fnExactValidPlotsUptoRow : OpenClaim := { program := "ytgdkimdikalmkaa", sum := "1f0a0b09d49bc9f60e3ecbab5cbf5778b011b76642dc5e5bee554b06d950cfbf", func := "loop.example/g01338/laws.FnExactValidPlots", spec := "fnExactValidPlots", apart := false, narrowed := true }
def FnExactValidPlotsUptoSaid : Prop := fnExactValidPlotsUptoRow.holds Try.pinned (OpenSpec.upto fnExactValidPlotsSpec)

/-- 'laws.FnStores', WHERE WHAT IT READS IS OF BULK AT MOST 1048576: true; the input reads as it did. -/
def fnStoresUptoRow : OpenClaim := { program := "ytgdkimdikalmkaa", sum := "1f0a0b09d49bc9f60e3ecbab5cbf5778b011b76642dc5e5bee554b06d950cfbf", func := "loop.example/g01338/laws.FnStores", spec := "fnStores", apart := false, narrowed := true }
def FnStoresUptoSaid : Prop := fnStoresUptoRow.holds Try.pinned (OpenSpec.upto fnStoresSpec)

/-- 'laws.FnExactCheckAwards', WHERE WHAT IT READS IS OF BULK AT MOST 1048576: true; the input reads as it did. -/
def fnExactCheckAwardsUptoRow : OpenClaim := { program := "ytgdkimdikalmkaa", sum := "1f0a0b09d49bc9f60e3ecbab5cbf5778b011b76642dc5e5bee554b06d950cfbf", func := "loop.example/g01338/laws.FnExactCheckAwards", spec := "fnExactCheckAwards", unfollowed := true, recurses := true, apart := false, narrowed := true }
def FnExactCheckAwardsUptoSaid : Prop := fnExactCheckAwardsUptoRow.holds Try.pinned (OpenSpec.upto fnExactCheckAwardsSpec)

/-- 'laws.FnExactCheckShares', WHERE WHAT IT READS IS OF BULK AT MOST 1048576: true; the input reads as it did. -/
def fnExactCheckSharesUptoRow : OpenClaim := { program := "ytgdkimdikalmkaa", sum := "1f0a0b09d49bc9f60e3ecbab5cbf5778b011b76642dc5e5bee554b06d950cfbf", func := "loop.example/g01338/laws.FnExactCheckShares", spec := "fnExactCheckShares", unfollowed := true, recurses := true, apart := false, narrowed := true }
def FnExactCheckSharesUptoSaid : Prop := fnExactCheckSharesUptoRow.holds Try.pinned (OpenSpec.upto fnExactCheckSharesSpec)

/-- 'laws.FnExactWorthOn', WHERE WHAT IT READS IS OF BULK AT MOST 1048576: true; the input reads as it did. -/
def fnExactWorthOnUptoRow : OpenClaim := { program := "ytgdkimdikalmkaa", sum := "1f0a0b09d49bc9f60e3ecbab5cbf5778b011b76642dc5e5bee554b06d950cfbf", func := "loop.example/g01338/laws.FnExactWorthOn", spec := "fnExactWorthOn", apart := false, narrowed := true }
def FnExactWorthOnUptoSaid : Prop := fnExactWorthOnUptoRow.holds Try.pinned (OpenSpec.upto fnExactWorthOnSpec)

/-- 'laws.FnExactBestDay', WHERE WHAT IT READS IS OF BULK AT MOST 1048576: true; the input reads as it did. -/
def fnExactBestDayUptoRow : OpenClaim := { program := "ytgdkimdikalmkaa", sum := "1f0a0b09d49bc9f60e3ecbab5cbf5778b011b76642dc5e5bee554b06d950cfbf", func := "loop.example/g01338/laws.FnExactBestDay", spec := "fnExactBestDay", apart := false, narrowed := true }
def FnExactBestDayUptoSaid : Prop := fnExactBestDayUptoRow.holds Try.pinned (OpenSpec.upto fnExactBestDaySpec)

/-- 'laws.FnExactEqualAwards', WHERE WHAT IT READS IS OF BULK AT MOST 1048576: true; the input reads as it did. -/
def fnExactEqualAwardsUptoRow : OpenClaim := { program := "ytgdkimdikalmkaa", sum := "1f0a0b09d49bc9f60e3ecbab5cbf5778b011b76642dc5e5bee554b06d950cfbf", func := "loop.example/g01338/laws.FnExactEqualAwards", spec := "fnExactEqualAwards", unfollowed := true, recurses := true, apart := false, narrowed := true }
def FnExactEqualAwardsUptoSaid : Prop := fnExactEqualAwardsUptoRow.holds Try.pinned (OpenSpec.upto fnExactEqualAwardsSpec)

/-- 'laws.FnExactWorthBound', WHERE WHAT IT READS IS OF BULK AT MOST 1048576: true; the input reads as it did. -/
def fnExactWorthBoundUptoRow : OpenClaim := { program := "ytgdkimdikalmkaa", sum := "1f0a0b09d49bc9f60e3ecbab5cbf5778b011b76642dc5e5bee554b06d950cfbf", func := "loop.example/g01338/laws.FnExactWorthBound", spec := "fnExactWorthBound", apart := false, narrowed := true }
def FnExactWorthBoundUptoSaid : Prop := fnExactWorthBoundUptoRow.holds Try.pinned (OpenSpec.upto fnExactWorthBoundSpec)

/-- 'laws.FnExactSharesOf', WHERE WHAT IT READS IS OF BULK AT MOST 1048576: true; the input reads as it did. -/
def fnExactSharesOfUptoRow : OpenClaim := { program := "ytgdkimdikalmkaa", sum := "1f0a0b09d49bc9f60e3ecbab5cbf5778b011b76642dc5e5bee554b06d950cfbf", func := "loop.example/g01338/laws.FnExactSharesOf", spec := "fnExactSharesOf", unfollowed := true, recurses := true, apart := false, narrowed := true }
def FnExactSharesOfUptoSaid : Prop := fnExactSharesOfUptoRow.holds Try.pinned (OpenSpec.upto fnExactSharesOfSpec)

/-- 'laws.FnShares', WHERE WHAT IT READS IS OF BULK AT MOST 1048576: true; the input reads as it did. -/
def fnSharesUptoRow : OpenClaim := { program := "ytgdkimdikalmkaa", sum := "1f0a0b09d49bc9f60e3ecbab5cbf5778b011b76642dc5e5bee554b06d950cfbf", func := "loop.example/g01338/laws.FnShares", spec := "fnShares", unfollowed := true, recurses := true, apart := false, narrowed := true }
def FnSharesUptoSaid : Prop := fnSharesUptoRow.holds Try.pinned (OpenSpec.upto fnSharesSpec)

end Rows
end Go.Proofs.Ytgdkimdikalmkaa
