/-
  No cell of these rows narrows 'for every input' (looked for: loops, veiled, ifaces, maps, wideKeys, modest, calm, conditions, laid).
  DERIVED. THE GIVEN ROWS OF THIS SEAT. 6 by the template 'for every input the law returns true; each argument reads behind the call as it read before'; 0 by the template 'total and deterministic' (their statements: YtpkapkgfmibooaaTotals.lean).
  GIVEN WITH THE SEED: the statements are not yours to turn. If you find one false, say at which input.
  Laid BY PROGRAM, IN A SANDBOX (cutbox-rows.mjs): the forced cells as the released guide's own fill.sh prints them over the translation 18475caed40b7114… (all of the seat's roots in one cut). By AI agents, Wed Nov 11 2026. No macro, syntax, notation, axiom, sorry.
-/
import Derived.Test.YtpkapkgfmibooaaChecked
import GoSem.Claim
import GoSem.ClaimJoined
import GoSem.ClaimMapViews
import Derived.JoinedTies
import Derived.KernelRfl
namespace Go.Proofs.Ytpkapkgfmibooaa
/- THE CELL 'sum', in the pinned program and in every row, IS THE sha256 OF THE DUMP (.gsa) THAT YtpkapkgfmibooaaProg.lean LOADS. Nothing in Lean hashes anything: it is a label: what it is worth is what the hold of that sum in a sandbox is worth. -/
noncomputable def Try.pinned : Pinned := { name := "ytpkapkgfmibooaa", sum := "18475caed40b7114af1b87278bff880c56980ddd78089f8626647febcfc346c6", checked := Try.checked }
namespace Rows
def none {H : Type} : Left H := { results := [], args := [] }

/-- 'laws.FnExactBordersOf': WHATEVER THE INPUT: true; the input reads as it did. -/
def fnExactBordersOfSpec : ChangeSpec := { name := "fnExactBordersOf", fn := fun _ => fun
  | [d1, d2] => { results := [.lit (.bool true)], args := [d1, d2] }
  | _ => none }
def fnExactBordersOfRow : OpenClaim := { program := "ytpkapkgfmibooaa", sum := "18475caed40b7114af1b87278bff880c56980ddd78089f8626647febcfc346c6", func := "loop.example/g01338/laws.FnExactBordersOf", spec := "fnExactBordersOf", apart := false }
def FnExactBordersOfSaid : Prop := fnExactBordersOfRow.holds Try.pinned (OpenSpec.ofChange fnExactBordersOfSpec)

/-- ITS FALSE NEIGHBOUR: 'it returns false'. Refute it at one input. -/
def fnExactBordersOfWrong : ChangeSpec := { name := "fnExactBordersOf", fn := fun _ => fun
  | [d1, d2] => { results := [.lit (.bool false)], args := [d1, d2] }
  | _ => none }
def FnExactBordersOfWrongFalsely : Prop := fnExactBordersOfRow.holds Try.pinned (OpenSpec.ofChange fnExactBordersOfWrong)

/-- 'laws.FnExactLossByOwner': WHATEVER THE INPUT: true; the input reads as it did. -/
def fnExactLossByOwnerSpec : ChangeSpec := { name := "fnExactLossByOwner", fn := fun _ => fun
  | [d1, d2, d3] => { results := [.lit (.bool true)], args := [d1, d2, d3] }
  | _ => none }
def fnExactLossByOwnerRow : OpenClaim := { program := "ytpkapkgfmibooaa", sum := "18475caed40b7114af1b87278bff880c56980ddd78089f8626647febcfc346c6", func := "loop.example/g01338/laws.FnExactLossByOwner", spec := "fnExactLossByOwner", apart := false }
def FnExactLossByOwnerSaid : Prop := fnExactLossByOwnerRow.holds Try.pinned (OpenSpec.ofChange fnExactLossByOwnerSpec)

/-- ITS FALSE NEIGHBOUR: 'it returns false'. Refute it at one input. -/
def fnExactLossByOwnerWrong : ChangeSpec := { name := "fnExactLossByOwner", fn := fun _ => fun
  | [d1, d2, d3] => { results := [.lit (.bool false)], args := [d1, d2, d3] }
  | _ => none }
def FnExactLossByOwnerWrongFalsely : Prop := fnExactLossByOwnerRow.holds Try.pinned (OpenSpec.ofChange fnExactLossByOwnerWrong)

/-- 'laws.FnExactFalseClaims': WHATEVER THE INPUT: true; the input reads as it did. -/
def fnExactFalseClaimsSpec : ChangeSpec := { name := "fnExactFalseClaims", fn := fun _ => fun
  | [d1, d2, d3, d4] => { results := [.lit (.bool true)], args := [d1, d2, d3, d4] }
  | _ => none }
def fnExactFalseClaimsRow : OpenClaim := { program := "ytpkapkgfmibooaa", sum := "18475caed40b7114af1b87278bff880c56980ddd78089f8626647febcfc346c6", func := "loop.example/g01338/laws.FnExactFalseClaims", spec := "fnExactFalseClaims", unfollowed := true, recurses := true, apart := false }
def FnExactFalseClaimsSaid : Prop := fnExactFalseClaimsRow.holds Try.pinned (OpenSpec.ofChange fnExactFalseClaimsSpec)

/-- ITS FALSE NEIGHBOUR: 'it returns false'. Refute it at one input. -/
def fnExactFalseClaimsWrong : ChangeSpec := { name := "fnExactFalseClaims", fn := fun _ => fun
  | [d1, d2, d3, d4] => { results := [.lit (.bool false)], args := [d1, d2, d3, d4] }
  | _ => none }
def FnExactFalseClaimsWrongFalsely : Prop := fnExactFalseClaimsRow.holds Try.pinned (OpenSpec.ofChange fnExactFalseClaimsWrong)

/-- 'laws.FnExactFairClaims': WHATEVER THE INPUT: true; the input reads as it did. -/
def fnExactFairClaimsSpec : ChangeSpec := { name := "fnExactFairClaims", fn := fun _ => fun
  | [d1, d2, d3, d4] => { results := [.lit (.bool true)], args := [d1, d2, d3, d4] }
  | _ => none }
def fnExactFairClaimsRow : OpenClaim := { program := "ytpkapkgfmibooaa", sum := "18475caed40b7114af1b87278bff880c56980ddd78089f8626647febcfc346c6", func := "loop.example/g01338/laws.FnExactFairClaims", spec := "fnExactFairClaims", unfollowed := true, recurses := true, apart := false }
def FnExactFairClaimsSaid : Prop := fnExactFairClaimsRow.holds Try.pinned (OpenSpec.ofChange fnExactFairClaimsSpec)

/-- ITS FALSE NEIGHBOUR: 'it returns false'. Refute it at one input. -/
def fnExactFairClaimsWrong : ChangeSpec := { name := "fnExactFairClaims", fn := fun _ => fun
  | [d1, d2, d3, d4] => { results := [.lit (.bool false)], args := [d1, d2, d3, d4] }
  | _ => none }
def FnExactFairClaimsWrongFalsely : Prop := fnExactFairClaimsRow.holds Try.pinned (OpenSpec.ofChange fnExactFairClaimsWrong)

/-- 'laws.FnExactValidPlan': WHATEVER THE INPUT: true; the input reads as it did. -/
def fnExactValidPlanSpec : ChangeSpec := { name := "fnExactValidPlan", fn := fun _ => fun
  | [d1, d2, d3] => { results := [.lit (.bool true)], args := [d1, d2, d3] }
  | _ => none }
def fnExactValidPlanRow : OpenClaim := { program := "ytpkapkgfmibooaa", sum := "18475caed40b7114af1b87278bff880c56980ddd78089f8626647febcfc346c6", func := "loop.example/g01338/laws.FnExactValidPlan", spec := "fnExactValidPlan", apart := false }
def FnExactValidPlanSaid : Prop := fnExactValidPlanRow.holds Try.pinned (OpenSpec.ofChange fnExactValidPlanSpec)

/-- ITS FALSE NEIGHBOUR: 'it returns false'. Refute it at one input. -/
def fnExactValidPlanWrong : ChangeSpec := { name := "fnExactValidPlan", fn := fun _ => fun
  | [d1, d2, d3] => { results := [.lit (.bool false)], args := [d1, d2, d3] }
  | _ => none }
def FnExactValidPlanWrongFalsely : Prop := fnExactValidPlanRow.holds Try.pinned (OpenSpec.ofChange fnExactValidPlanWrong)

/-- 'laws.FnExactWorthOf': WHATEVER THE INPUT: true; the input reads as it did. -/
def fnExactWorthOfSpec : ChangeSpec := { name := "fnExactWorthOf", fn := fun _ => fun
  | [d1, d2, d3] => { results := [.lit (.bool true)], args := [d1, d2, d3] }
  | _ => none }
def fnExactWorthOfRow : OpenClaim := { program := "ytpkapkgfmibooaa", sum := "18475caed40b7114af1b87278bff880c56980ddd78089f8626647febcfc346c6", func := "loop.example/g01338/laws.FnExactWorthOf", spec := "fnExactWorthOf", apart := false }
def FnExactWorthOfSaid : Prop := fnExactWorthOfRow.holds Try.pinned (OpenSpec.ofChange fnExactWorthOfSpec)

/-- ITS FALSE NEIGHBOUR: 'it returns false'. Refute it at one input. -/
def fnExactWorthOfWrong : ChangeSpec := { name := "fnExactWorthOf", fn := fun _ => fun
  | [d1, d2, d3] => { results := [.lit (.bool false)], args := [d1, d2, d3] }
  | _ => none }
def FnExactWorthOfWrongFalsely : Prop := fnExactWorthOfRow.holds Try.pinned (OpenSpec.ofChange fnExactWorthOfWrong)

/- THE SECOND FORM. 'bulk': how many values and letters a reading holds, each counted each time it is reached (what is shared counts as often as it is met; a slice's spare places count too). A statement '..UptoSaid' is the law's where the arguments, and the package variables that the reading takes, are together of bulk at most 1048576: NARROWER than '..Said'. Prove '..Said' where nothing that the law and all that it calls make is longer than what came in: it says more and counts as full. Else prove '..UptoSaid'. A law counts once. -/
mutual
def uptoBulk {H : Type} : DataW H → Nat
  | .lit (.string bytes) => bytes.length + 1
  | .lit _ => 1
  | .nil => 1
  | .ptr d => uptoBulk d + 1
  | .slice elems spare => uptoBulkAll elems + uptoBulkAll spare + 1
  | .agg parts => uptoBulkAll parts + 1
  | .iface _ d => uptoBulk d + 1
  | .map entries => uptoBulkEntries entries + 1
  | .held _ => 1
def uptoBulkAll {H : Type} : List (DataW H) → Nat
  | [] => 0
  | d :: r => uptoBulk d + uptoBulkAll r
def uptoBulkEntries {H : Type} : List (Lit × DataW H) → Nat
  | [] => 0
  | x :: r => uptoBulkEntry x + uptoBulkEntries r
def uptoBulkEntry {H : Type} : Lit × DataW H → Nat
  | (.string bytes, d) => bytes.length + uptoBulk d + 1
  | (_, d) => uptoBulk d + 1
 end
def uptoSmall : (H : Type) → List (DataW H) → Bool := fun _ ds => decide (uptoBulkAll ds ≤ 1048576)
def OpenSpec.upto (s : _root_.Go.ChangeSpec) : _root_.Go.OpenSpec := { _root_.Go.OpenSpec.ofChange s with cond := some uptoSmall }

/-- 'laws.FnExactBordersOf', WHERE WHAT IT READS IS OF BULK AT MOST 1048576: true; the input reads as it did. -/
def fnExactBordersOfUptoRow : OpenClaim := { program := "ytpkapkgfmibooaa", sum := "18475caed40b7114af1b87278bff880c56980ddd78089f8626647febcfc346c6", func := "loop.example/g01338/laws.FnExactBordersOf", spec := "fnExactBordersOf", apart := false, narrowed := true }
def FnExactBordersOfUptoSaid : Prop := fnExactBordersOfUptoRow.holds Try.pinned (OpenSpec.upto fnExactBordersOfSpec)

/-- 'laws.FnExactLossByOwner', WHERE WHAT IT READS IS OF BULK AT MOST 1048576: true; the input reads as it did. -/
def fnExactLossByOwnerUptoRow : OpenClaim := { program := "ytpkapkgfmibooaa", sum := "18475caed40b7114af1b87278bff880c56980ddd78089f8626647febcfc346c6", func := "loop.example/g01338/laws.FnExactLossByOwner", spec := "fnExactLossByOwner", apart := false, narrowed := true }
def FnExactLossByOwnerUptoSaid : Prop := fnExactLossByOwnerUptoRow.holds Try.pinned (OpenSpec.upto fnExactLossByOwnerSpec)

/-- 'laws.FnExactFalseClaims', WHERE WHAT IT READS IS OF BULK AT MOST 1048576: true; the input reads as it did. -/
def fnExactFalseClaimsUptoRow : OpenClaim := { program := "ytpkapkgfmibooaa", sum := "18475caed40b7114af1b87278bff880c56980ddd78089f8626647febcfc346c6", func := "loop.example/g01338/laws.FnExactFalseClaims", spec := "fnExactFalseClaims", unfollowed := true, recurses := true, apart := false, narrowed := true }
def FnExactFalseClaimsUptoSaid : Prop := fnExactFalseClaimsUptoRow.holds Try.pinned (OpenSpec.upto fnExactFalseClaimsSpec)

/-- 'laws.FnExactFairClaims', WHERE WHAT IT READS IS OF BULK AT MOST 1048576: true; the input reads as it did. -/
def fnExactFairClaimsUptoRow : OpenClaim := { program := "ytpkapkgfmibooaa", sum := "18475caed40b7114af1b87278bff880c56980ddd78089f8626647febcfc346c6", func := "loop.example/g01338/laws.FnExactFairClaims", spec := "fnExactFairClaims", unfollowed := true, recurses := true, apart := false, narrowed := true }
def FnExactFairClaimsUptoSaid : Prop := fnExactFairClaimsUptoRow.holds Try.pinned (OpenSpec.upto fnExactFairClaimsSpec)

/-- 'laws.FnExactValidPlan', WHERE WHAT IT READS IS OF BULK AT MOST 1048576: true; the input reads as it did. -/
def fnExactValidPlanUptoRow : OpenClaim := { program := "ytpkapkgfmibooaa", sum := "18475caed40b7114af1b87278bff880c56980ddd78089f8626647febcfc346c6", func := "loop.example/g01338/laws.FnExactValidPlan", spec := "fnExactValidPlan", apart := false, narrowed := true }
def FnExactValidPlanUptoSaid : Prop := fnExactValidPlanUptoRow.holds Try.pinned (OpenSpec.upto fnExactValidPlanSpec)

/-- 'laws.FnExactWorthOf', WHERE WHAT IT READS IS OF BULK AT MOST 1048576: true; the input reads as it did. -/
def fnExactWorthOfUptoRow : OpenClaim := { program := "ytpkapkgfmibooaa", sum := "18475caed40b7114af1b87278bff880c56980ddd78089f8626647febcfc346c6", func := "loop.example/g01338/laws.FnExactWorthOf", spec := "fnExactWorthOf", apart := false, narrowed := true }
def FnExactWorthOfUptoSaid : Prop := fnExactWorthOfUptoRow.holds Try.pinned (OpenSpec.upto fnExactWorthOfSpec)

end Rows
end Go.Proofs.Ytpkapkgfmibooaa
