/- From what the row of OwnersText lists to what the walks ask of the library's variables. -/
import Derived.Test.YtfeniekapmbjjaaDoorRows
import Derived.Test.YtfeniekapmbjjaaDoorSBd
import Derived.Lib.LaidTab
import Derived.Stop.LaidErr
import Derived.LaidByTextLater
import Derived.LaidMore
import Derived.Stop.Joined
import Derived.Shelf.LaysM
namespace Go.Proofs.YtfeniekapmbjjaaDoor
open Go.RowKit Go.Shelf
set_option linter.unusedSimpArgs false
set_option linter.unusedVariables false
set_option maxRecDepth 100000
theorem uA : Tryd.prog.underlying 110 = some (.array 20 91) := by kernel_rfl
theorem uU : Tryd.prog.underlying 91 = some (.int .u64) := by kernel_rfl
theorem tab_of {W : World} (hL : laidMetH Tryd.prog Rows.fnExactOwnersTextRow.laid W) : TabW W := by
  rw [MakeChecks.laidMetH_plain _ _ _ (by kernel_rfl)] at hL
  have h1 : laidMet Tryd.prog _ W := hL
  have h2 := h1.tail.tail
  exact Lib.tabIs_of_head (k := .u64) (zs := Lib.pow10Tab) gTab (by kernel_rfl) uA uU (by kernel_rfl) (by kernel_rfl) h2
end Go.Proofs.YtfeniekapmbjjaaDoor
