/- What the program's functions come to, each as a plain function, with its proof; no condition but those that each theorem names. Written by a program of this claim around the kit's print. -/
import Derived.Test.YtinpmhmagcmamaaProg
import Derived.Below
import Derived.Deep.Draws
import Derived.Deep.AppendLies
import Derived.Maps.AppendAt
import Derived.OwnWalk
import Derived.Laws.BytesArg
import Derived.Laws.MakeOwn
import Derived.Laws.OwnMore
import Derived.Deep.OwnRows
import Derived.Tactics
import Derived.Lib.ConvBytes
import Derived.Laws.Slices
import Derived.WalkKit
import Derived.KernelRfl
import Derived.RowKit3
import Derived.Deep.LoopGhost
import Derived.Deep.QuietTactic
import Derived.BigQuiet
import Derived.WideLaws
import Derived.Deep.DeepCutAuto
import Derived.Deep.CutBlock
import Derived.Deep.RegionHeld3
import Derived.Laws.Rows
import Derived.Lib.AppendStr
import Derived.ArgAppend
import Derived.Laws.IdiomCopy
import Derived.OrdersHeld
import Derived.Laws.BitsLemmas
import Derived.RowKit
import Derived.Test.YtinpmhmagcmamaaWWords
import Derived.Test.YtinpmhmagcmamaaWLast
import Derived.Test.YtinpmhmagcmamaaWTab
import Derived.Test.YtinpmhmagcmamaaWFour
import Derived.Test.YtinpmhmagcmamaaWQPut
import Derived.Test.YtinpmhmagcmamaaWApart
import Derived.Test.YtinpmhmagcmamaaWArr
import Derived.Test.YtinpmhmagcmamaaWZeros
import Derived.Test.YtinpmhmagcmamaaWFoot
import Derived.Test.YtinpmhmagcmamaaWKept
import Derived.Test.YtinpmhmagcmamaaWShare
import Derived.Test.YtinpmhmagcmamaaWN
import Derived.Test.YtinpmhmagcmamaaWFootNe
import Derived.Test.YtinpmhmagcmamaaWAt
import Derived.Test.YtinpmhmagcmamaaWEqStruct
import Derived.Test.YtinpmhmagcmamaaWRepsOne
import Derived.Test.YtinpmhmagcmamaaWInv
import Derived.Test.YtinpmhmagcmamaaWInvWords
import Derived.Test.YtinpmhmagcmamaaWGuard
import Derived.Test.YtinpmhmagcmamaaWNEv
import Derived.Test.YtinpmhmagcmamaaWMore
namespace Go.Proofs.Ytinpmhmagcmamaa.PAll
open Go.RowKit Go.Proofs.YtinpmhmagcmamaaW.PrintWords Go.Proofs.YtinpmhmagcmamaaW.PrintLast Go.Proofs.YtinpmhmagcmamaaW.PrintMore
attribute [local go_sem] max2_int min2_int max_two min_two max_three min_three max_four min_four   -- for this text's walks alone
set_option linter.unusedVariables false
set_option linter.unusedSimpArgs false



def errW : Option Int → Value
  | none => .nilIface
  | some c => .iface 0 (.int .i64 c)
theorem errW_none : errW none = .nilIface := rfl
theorem errW_some (c : Int) : errW (some c) = .iface 0 (.int .i64 c) := rfl

theorem info2 : (Try.prog.info? 2).map (fun i => (i.zero, i.size, i.bytes)) = some (some (.int .i64 0), 1, 8) := by kernel_rfl
-- the values' own types

end Go.Proofs.Ytinpmhmagcmamaa.PAll
