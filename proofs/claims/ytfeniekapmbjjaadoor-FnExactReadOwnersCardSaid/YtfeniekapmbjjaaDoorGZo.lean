/- From what the row lists, and the world's shape, to what the walks ask of the library's variables. -/
import Derived.Test.YtfeniekapmbjjaaDoorRows
import Derived.Test.YtfeniekapmbjjaaDoorGXo
import Derived.Lib.LaidTab
import Derived.Stop.LaidErr
import Derived.LaidByTextLater
import Derived.LaidMore
import Derived.Stop.Joined
import Derived.Shelf.LaysM
namespace Go.Proofs.YtfeniekapmbjjaaDoor
open Go.RowKit Go.Shelf
set_option linter.unusedSimpArgs false
set_option linter.unusedVariables false
set_option maxRecDepth 100000

theorem zMaxLen {W : World} (h : W.ShapedOpen Tryd.prog) : ∃ m, W.cell? ⟨0, 0, none⟩ = some (.int .i64 m) :=
  Go.Proofs.cell_of_shapedOpen_int (zero := #[.int .i64 0]) (t := 3) h (of_decide_eq_true (by kernel_rfl)) (by kernel_rfl) rfl (by kernel_rfl) (by kernel_rfl) Tryd.underlying3
theorem zName (u : TypeId) (h : Tryd.prog.typeName? 3 u = some "*errors.errorString") : u = 127 :=
  typeName_ptr_named (nm := "errors.errorString") (by kernel_rfl) (by kernel_rfl) (by decide) u h
theorem uE : Tryd.prog.underlying 54 = some (.interface #[("Error", 58)]) := by kernel_rfl
theorem uP : Tryd.prog.underlying 127 = some (.pointer 129) := by kernel_rfl
theorem uA : Tryd.prog.underlying 110 = some (.array 20 91) := by kernel_rfl
theorem uU : Tryd.prog.underlying 91 = some (.int .u64) := by kernel_rfl
theorem uT : Tryd.prog.underlying 9 = some .string := by kernel_rfl
theorem glob_of {W : World} (hL : laidMetH Tryd.prog Rows.fnExactReadOwnersRow.laid W) (hsh : W.ShapedOpen Tryd.prog) : Glob W := by
  rw [MakeChecks.laidMetH_plain _ _ _ (by kernel_rfl)] at hL
  have h1 : laidMet Tryd.prog _ W := hL
  have h2 := h1.tail.tail
  have h5 := h2.tail.tail
  have h6 := h5.tail
  have ht := Lib.tabIs_of_head (k := .u64) (zs := Lib.pow10Tab) gTab (by kernel_rfl) uA uU (by kernel_rfl) (by kernel_rfl) h2
  obtain ⟨a3, s3, hr, -, -, -⟩ := laid_sentinel h5 gRng (by kernel_rfl) uE zName uP Tryd.underlying129 rfl rfl uT (by kernel_rfl) (by kernel_rfl)
  obtain ⟨a2, s2, hs, -, -, -⟩ := laid_sentinel h6 gSyn (by kernel_rfl) uE zName uP Tryd.underlying129 rfl rfl uT (by kernel_rfl) (by kernel_rfl)
  exact ⟨zMaxLen hsh, ⟨_, _, hs⟩, ⟨_, _, hr⟩, ht⟩
end Go.Proofs.YtfeniekapmbjjaaDoor
