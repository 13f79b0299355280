/- What the program's functions come to, each as a plain function, with its proof; no condition but those that each theorem names. Written by a program of this claim around the kit's print. -/
import Derived.Test.YtfeniekapmbjjaaDoorProg
import Derived.Below
import Derived.Deep.Draws
import Derived.Deep.AppendLies
import Derived.Maps.AppendAt
import Derived.OwnWalk
import Derived.Laws.BytesArg
import Derived.Laws.MakeOwn
import Derived.Laws.OwnMore
import Derived.Deep.OwnRows
import Derived.Tactics
import Derived.Lib.ConvBytes
import Derived.Laws.Slices
import Derived.WalkKit
import Derived.KernelRfl
import Derived.RowKit3
import Derived.Deep.LoopGhost
import Derived.Deep.QuietTactic
import Derived.BigQuiet
import Derived.WideLaws
import Derived.Deep.DeepCutAuto
import Derived.Deep.CutBlock
import Derived.Deep.RegionHeld3
import Derived.Laws.Rows
import Derived.Lib.AppendStr
import Derived.ArgAppend
import Derived.Laws.IdiomCopy
import Derived.OrdersHeld
import Derived.Laws.BitsLemmas
import Derived.RowKit
import Derived.Test.YtfeniekapmbjjaaDoorWWords
import Derived.Test.YtfeniekapmbjjaaDoorWLast
import Derived.Test.YtfeniekapmbjjaaDoorWTab
import Derived.Test.YtfeniekapmbjjaaDoorWFour
import Derived.Test.YtfeniekapmbjjaaDoorWQPut
import Derived.Test.YtfeniekapmbjjaaDoorWApart
import Derived.Test.YtfeniekapmbjjaaDoorWArr
import Derived.Test.YtfeniekapmbjjaaDoorWZeros
import Derived.Test.YtfeniekapmbjjaaDoorWFoot
import Derived.Test.YtfeniekapmbjjaaDoorWKept
import Derived.Test.YtfeniekapmbjjaaDoorWShare
import Derived.Test.YtfeniekapmbjjaaDoorWN
import Derived.Test.YtfeniekapmbjjaaDoorWFootNe
import Derived.Test.YtfeniekapmbjjaaDoorWAt
import Derived.Test.YtfeniekapmbjjaaDoorWEqStruct
import Derived.Test.YtfeniekapmbjjaaDoorWRepsOne
import Derived.Test.YtfeniekapmbjjaaDoorWInv
import Derived.Test.YtfeniekapmbjjaaDoorWInvWords
import Derived.Test.YtfeniekapmbjjaaDoorWGuard
import Derived.Test.YtfeniekapmbjjaaDoorWNEv
import Derived.Test.YtfeniekapmbjjaaDoorWMore
namespace Go.Proofs.YtfeniekapmbjjaaDoor.PAll
open Go.RowKit Go.Proofs.YtfeniekapmbjjaaDoorW.PrintWords Go.Proofs.YtfeniekapmbjjaaDoorW.PrintLast Go.Proofs.YtfeniekapmbjjaaDoorW.PrintMore
attribute [local go_sem] max2_int min2_int max_two min_two max_three min_three max_four min_four   -- for this text's walks alone
set_option linter.unusedVariables false
set_option linter.unusedSimpArgs false



def errW : Option Int → Value
  | none => .nilIface
  | some c => .iface 103 (.int .i64 c)
theorem errW_none : errW none = .nilIface := rfl
theorem errW_some (c : Int) : errW (some c) = .iface 103 (.int .i64 c) := rfl

theorem info5 : (Tryd.prog.info? 5).map (fun i => (i.zero, i.size, i.bytes)) = some (some (.int .u8 0), 1, 1) := by kernel_rfl
theorem info9 : (Tryd.prog.info? 9).map (fun i => (i.zero, i.size, i.bytes)) = some (some (.string ⟨#[]⟩), 1, 16) := by kernel_rfl
-- the values' own types

end Go.Proofs.YtfeniekapmbjjaaDoor.PAll
