/- What the program's functions come to, each as a plain function, with its proof; no condition but those that each theorem names. Written by a program of this claim around the kit's print. -/
import Derived.Test.YtinpmhmagcmamaaDoorProg
import Derived.Below
import Derived.Deep.Draws
import Derived.Deep.AppendLies
import Derived.Maps.AppendAt
import Derived.OwnWalk
import Derived.Laws.BytesArg
import Derived.Laws.MakeOwn
import Derived.Laws.OwnMore
import Derived.Deep.OwnRows
import Derived.Tactics
import Derived.Lib.ConvBytes
import Derived.Laws.Slices
import Derived.WalkKit
import Derived.KernelRfl
import Derived.RowKit3
import Derived.Deep.LoopGhost
import Derived.Deep.QuietTactic
import Derived.BigQuiet
import Derived.WideLaws
import Derived.Deep.DeepCutAuto
import Derived.Deep.CutBlock
import Derived.Deep.RegionHeld3
import Derived.Laws.Rows
import Derived.Lib.AppendStr
import Derived.ArgAppend
import Derived.Laws.IdiomCopy
import Derived.OrdersHeld
import Derived.Laws.BitsLemmas
import Derived.RowKit
import Derived.Test.YtinpmhmagcmamaaDoorGX
import Derived.Test.YtinpmhmagcmamaaDoorWWords
import Derived.Test.YtinpmhmagcmamaaDoorWLast
import Derived.Test.YtinpmhmagcmamaaDoorWTab
import Derived.Test.YtinpmhmagcmamaaDoorWFour
import Derived.Test.YtinpmhmagcmamaaDoorWQPut
import Derived.Test.YtinpmhmagcmamaaDoorWApart
import Derived.Test.YtinpmhmagcmamaaDoorWArr
import Derived.Test.YtinpmhmagcmamaaDoorWZeros
import Derived.Test.YtinpmhmagcmamaaDoorWFoot
import Derived.Test.YtinpmhmagcmamaaDoorWKept
import Derived.Test.YtinpmhmagcmamaaDoorWShare
import Derived.Test.YtinpmhmagcmamaaDoorWN
import Derived.Test.YtinpmhmagcmamaaDoorWFootNe
import Derived.Test.YtinpmhmagcmamaaDoorWAt
import Derived.Test.YtinpmhmagcmamaaDoorWEqStruct
import Derived.Test.YtinpmhmagcmamaaDoorWRepsOne
import Derived.Test.YtinpmhmagcmamaaDoorWInv
import Derived.Test.YtinpmhmagcmamaaDoorWInvWords
import Derived.Test.YtinpmhmagcmamaaDoorWGuard
import Derived.Test.YtinpmhmagcmamaaDoorWNEv
import Derived.Test.YtinpmhmagcmamaaDoorWMore
namespace Go.Proofs.YtinpmhmagcmamaaDoor.PFnExactReadBeat
open Go.RowKit Go.Proofs.YtinpmhmagcmamaaDoorW.PrintWords Go.Proofs.YtinpmhmagcmamaaDoorW.PrintLast Go.Proofs.YtinpmhmagcmamaaDoorW.PrintMore
attribute [local go_sem] max2_int min2_int max_two min_two max_three min_three max_four min_four   -- for this text's walks alone
set_option linter.unusedVariables false
set_option linter.unusedSimpArgs false



def errW : Option Int → Value
  | none => .nilIface
  | some c => .iface 75 (.int .i64 c)
theorem errW_none : errW none = .nilIface := rfl
theorem errW_some (c : Int) : errW (some c) = .iface 75 (.int .i64 c) := rfl

theorem info9 : (Tryd.prog.info? 9).map (fun i => (i.zero, i.size, i.bytes)) = some (some (.string ⟨#[]⟩), 1, 16) := by kernel_rfl
theorem info33 : (Tryd.prog.info? 33).map (fun i => (i.zero, i.size, i.bytes)) = some (some (.int .i16 0), 1, 2) := by kernel_rfl
-- the values' own types

end Go.Proofs.YtinpmhmagcmamaaDoor.PFnExactReadBeat
