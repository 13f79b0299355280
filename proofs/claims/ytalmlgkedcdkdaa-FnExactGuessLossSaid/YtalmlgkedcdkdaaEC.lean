/- Two sets held against each other by the statements. No condition. -/
import Derived.Test.YtalmlgkedcdkdaaGC
import Derived.Test.YtalmlgkedcdkdaaGB
namespace Go.Proofs.Ytalmlgkedcdkdaa
open Go.RowKit
set_option linter.unusedSimpArgs false
set_option linter.unusedVariables false

theorem zrow_one (k : IntKind) (n : Nat) : ∀ v ∈ zrow k n, v.oneCell' = true := by intro v hv; rw [List.eq_of_mem_replicate hv]; rfl
theorem vrow_zero (k : IntKind) (n : Nat) : vrow k (List.replicate n 0) = zrow k n := by simp [vrow, zrow]

theorem run_storeCells_blk {P : Program} {w : World} {g : Nat} {cs vs : List Value} {T : TypeId} (hB : Blk w g cs T) (hl : vs.length = cs.length) (h1 : ∀ v ∈ vs, v.oneCell' = true) :
    Sem.run P (storeCells ⟨g, 0, none⟩ vs) w = .ok () (w.setRow g vs.toArray) := by
  have := run_storeCells_at (P := P) g 0 T vs 0 cs.toArray w hB (show 0 + 0 + vs.length ≤ cs.toArray.size by rw [List.size_toArray]; omega) h1
  rw [this]
  have e : List.drop (0 + 0 + vs.length) cs.toArray.toList = [] := List.drop_eq_nil_iff.2 (show cs.length ≤ 0 + 0 + vs.length by omega)
  rw [e, List.append_nil]
  rfl

end Go.Proofs.Ytalmlgkedcdkdaa
