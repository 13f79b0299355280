/- What the program's functions come to, each as a plain function, with its proof; no condition but those that each theorem names. Written by a program of this claim around the kit's print. -/
import Derived.Test.YtalmlgkedcdkdaaProg
import Derived.Below
import Derived.Deep.Draws
import Derived.Deep.AppendLies
import Derived.Maps.AppendAt
import Derived.OwnWalk
import Derived.Laws.BytesArg
import Derived.Laws.MakeOwn
import Derived.Laws.OwnMore
import Derived.Deep.OwnRows
import Derived.Tactics
import Derived.Lib.ConvBytes
import Derived.Laws.Slices
import Derived.WalkKit
import Derived.KernelRfl
import Derived.RowKit3
import Derived.Deep.LoopGhost
import Derived.Deep.QuietTactic
import Derived.BigQuiet
import Derived.WideLaws
import Derived.Deep.DeepCutAuto
import Derived.Deep.CutBlock
import Derived.Deep.RegionHeld3
import Derived.Laws.Rows
import Derived.Lib.AppendStr
import Derived.ArgAppend
import Derived.Laws.IdiomCopy
import Derived.OrdersHeld
import Derived.Laws.BitsLemmas
import Derived.RowKit
import Derived.Test.YtalmlgkedcdkdaaWWords
import Derived.Test.YtalmlgkedcdkdaaWLast
import Derived.Test.YtalmlgkedcdkdaaWTab
import Derived.Test.YtalmlgkedcdkdaaWFour
import Derived.Test.YtalmlgkedcdkdaaWQPut
import Derived.Test.YtalmlgkedcdkdaaWApart
import Derived.Test.YtalmlgkedcdkdaaWArr
import Derived.Test.YtalmlgkedcdkdaaWZeros
import Derived.Test.YtalmlgkedcdkdaaWFoot
import Derived.Test.YtalmlgkedcdkdaaWKept
import Derived.Test.YtalmlgkedcdkdaaWShare
import Derived.Test.YtalmlgkedcdkdaaWN
import Derived.Test.YtalmlgkedcdkdaaWFootNe
import Derived.Test.YtalmlgkedcdkdaaWAt
import Derived.Test.YtalmlgkedcdkdaaWEqStruct
import Derived.Test.YtalmlgkedcdkdaaWRepsOne
import Derived.Test.YtalmlgkedcdkdaaWInv
import Derived.Test.YtalmlgkedcdkdaaWInvWords
import Derived.Test.YtalmlgkedcdkdaaWGuard
import Derived.Test.YtalmlgkedcdkdaaWNEv
import Derived.Test.YtalmlgkedcdkdaaWMore
namespace Go.Proofs.Ytalmlgkedcdkdaa.PAll
open Go.RowKit Go.Proofs.YtalmlgkedcdkdaaW.PrintWords Go.Proofs.YtalmlgkedcdkdaaW.PrintLast Go.Proofs.YtalmlgkedcdkdaaW.PrintMore
attribute [local go_sem] max2_int min2_int max_two min_two max_three min_three max_four min_four   -- for this text's walks alone
set_option linter.unusedVariables false
set_option linter.unusedSimpArgs false



def errW : Option Int → Value
  | none => .nilIface
  | some c => .iface 0 (.int .i64 c)
theorem errW_none : errW none = .nilIface := rfl
theorem errW_some (c : Int) : errW (some c) = .iface 0 (.int .i64 c) := rfl

-- the values' own types

end Go.Proofs.Ytalmlgkedcdkdaa.PAll
