/-
  DERIVED. GIVEN WITH THE SEED: THE CARDS: each row of YtfeniekapmbjjaaDoorRows.lean that lists a variable, with what it lists TIED to the program's text (the seventh form; the later family's looks); each row that meets fmt, with fmt's text TOLD by the authors' own Lean function (tested against real Go, not proved from fmt's source: count such statements apart). THE CARD IS WHAT COUNTS. Prove the row's statement (the work); the ties are given (YtfeniekapmbjjaaDoorTie.lean); close each card by the builder's one call (the guide's Derived/Test/ToyasCard.lean, 'card_holds'). Laid BY PROGRAM, IN A SANDBOX (cutbox-door.mjs). By AI agents, Wed Nov 11 2026. No macro, syntax, notation, axiom, sorry.
-/
import Derived.Test.YtfeniekapmbjjaaDoorRows
import GoSem.ClaimSeven
namespace Go.Proofs.YtfeniekapmbjjaaDoor
namespace Rows

/-- THE TIED CARD OF 'laws.FnExactOwnersText'. -/
def fnExactOwnersTextCard : Claim7 := { stood := { row := fnExactOwnersTextRow, standIns := [], harness := (true, "ec2729a067e18cdb82bcac242cd6a85d1ab1a9352473dc3f3bff543e6bc6476e"), looks := true }, kinds := [], alts := [], laidByText := true, laidKinds := [.data, .data, .data], laidTests := true, laidLooks := .later }
def FnExactOwnersTextCardSaid : Prop := Claim7.holds Tryd.pinned (.plain (OpenSpec.ofChange fnExactOwnersTextSpec)) fnExactOwnersTextCard

/-- THE TIED CARD OF 'laws.FnExactReadOwners'. -/
def fnExactReadOwnersCard : Claim7 := { stood := { row := fnExactReadOwnersRow, standIns := [], harness := (true, "ec2729a067e18cdb82bcac242cd6a85d1ab1a9352473dc3f3bff543e6bc6476e"), looks := true }, kinds := [], alts := [], laidByText := true, laidKinds := [.data, .data, .data, .data, .sentinel, .sentinel, .pinned], laidTests := true, laidLooks := .later }
def FnExactReadOwnersCardSaid : Prop := Claim7.holds Tryd.pinned (.plain (OpenSpec.ofChange fnExactReadOwnersSpec)) fnExactReadOwnersCard

/-- THE SECOND FORM's CARD OF 'laws.FnExactOwnersText'. -/
def fnExactOwnersTextUptoCard : Claim7 := { stood := { row := fnExactOwnersTextUptoRow, standIns := [], harness := (true, "ec2729a067e18cdb82bcac242cd6a85d1ab1a9352473dc3f3bff543e6bc6476e"), looks := true }, kinds := [], alts := [], laidByText := true, laidKinds := [.data, .data, .data], laidTests := true, laidLooks := .later }
def FnExactOwnersTextUptoCardSaid : Prop := Claim7.holds Tryd.pinned (.plain (OpenSpec.upto fnExactOwnersTextSpec)) fnExactOwnersTextUptoCard

/-- THE SECOND FORM's CARD OF 'laws.FnExactReadOwners'. -/
def fnExactReadOwnersUptoCard : Claim7 := { stood := { row := fnExactReadOwnersUptoRow, standIns := [], harness := (true, "ec2729a067e18cdb82bcac242cd6a85d1ab1a9352473dc3f3bff543e6bc6476e"), looks := true }, kinds := [], alts := [], laidByText := true, laidKinds := [.data, .data, .data, .data, .sentinel, .sentinel, .pinned], laidTests := true, laidLooks := .later }
def FnExactReadOwnersUptoCardSaid : Prop := Claim7.holds Tryd.pinned (.plain (OpenSpec.upto fnExactReadOwnersSpec)) fnExactReadOwnersUptoCard
end Rows
end Go.Proofs.YtfeniekapmbjjaaDoor
