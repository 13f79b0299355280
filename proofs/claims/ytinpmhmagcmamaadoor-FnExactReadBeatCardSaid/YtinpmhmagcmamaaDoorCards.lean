/-
  DERIVED. GIVEN WITH THE SEED: THE CARDS: each row of YtinpmhmagcmamaaDoorRows.lean that lists a variable, with what it lists TIED to the program's text (the seventh form; the later family's looks); each row that meets fmt, with fmt's text TOLD by the authors' own Lean function (tested against real Go, not proved from fmt's source: count such statements apart). THE CARD IS WHAT COUNTS. Prove the row's statement (the work); the ties are given (YtinpmhmagcmamaaDoorTie.lean); close each card by the builder's one call (the guide's Derived/Test/ToyasCard.lean, 'card_holds'). Laid BY PROGRAM, IN A SANDBOX (cutbox-door.mjs). By AI agents, Wed Nov 11 2026. No macro, syntax, notation, axiom, sorry.
-/
import Derived.Test.YtinpmhmagcmamaaDoorRows
import GoSem.ClaimSeven
namespace Go.Proofs.YtinpmhmagcmamaaDoor
namespace Rows

/-- THE TIED CARD OF 'laws.FnExactBeatText'. -/
def fnExactBeatTextCard : Claim7 := { stood := { row := fnExactBeatTextRow, standIns := [], harness := (true, "b4916c4cd47bb08749111d6ecd2ba31bcfa3b45a613770345c8e0b378645c91b"), looks := true }, kinds := [], alts := [], laidByText := true, laidKinds := [.data, .data, .data], laidTests := true, laidLooks := .later }
def FnExactBeatTextCardSaid : Prop := Claim7.holds Tryd.pinned (.plain (OpenSpec.ofChange fnExactBeatTextSpec)) fnExactBeatTextCard

/-- THE TIED CARD OF 'laws.FnExactReadBeat'. -/
def fnExactReadBeatCard : Claim7 := { stood := { row := fnExactReadBeatRow, standIns := [], harness := (true, "b4916c4cd47bb08749111d6ecd2ba31bcfa3b45a613770345c8e0b378645c91b"), looks := true }, kinds := [], alts := [], laidByText := true, laidKinds := [.data, .data, .data, .data, .sentinel, .sentinel, .pinned], laidTests := true, laidLooks := .later }
def FnExactReadBeatCardSaid : Prop := Claim7.holds Tryd.pinned (.plain (OpenSpec.ofChange fnExactReadBeatSpec)) fnExactReadBeatCard

/-- THE SECOND FORM's CARD OF 'laws.FnExactBeatText'. -/
def fnExactBeatTextUptoCard : Claim7 := { stood := { row := fnExactBeatTextUptoRow, standIns := [], harness := (true, "b4916c4cd47bb08749111d6ecd2ba31bcfa3b45a613770345c8e0b378645c91b"), looks := true }, kinds := [], alts := [], laidByText := true, laidKinds := [.data, .data, .data], laidTests := true, laidLooks := .later }
def FnExactBeatTextUptoCardSaid : Prop := Claim7.holds Tryd.pinned (.plain (OpenSpec.upto fnExactBeatTextSpec)) fnExactBeatTextUptoCard

/-- THE SECOND FORM's CARD OF 'laws.FnExactReadBeat'. -/
def fnExactReadBeatUptoCard : Claim7 := { stood := { row := fnExactReadBeatUptoRow, standIns := [], harness := (true, "b4916c4cd47bb08749111d6ecd2ba31bcfa3b45a613770345c8e0b378645c91b"), looks := true }, kinds := [], alts := [], laidByText := true, laidKinds := [.data, .data, .data, .data, .sentinel, .sentinel, .pinned], laidTests := true, laidLooks := .later }
def FnExactReadBeatUptoCardSaid : Prop := Claim7.holds Tryd.pinned (.plain (OpenSpec.upto fnExactReadBeatSpec)) fnExactReadBeatUptoCard
end Rows
end Go.Proofs.YtinpmhmagcmamaaDoor
