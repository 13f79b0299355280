/- An argument that is a set of cells: its two words. No condition. -/
import Derived.Test.YtalmlgkedcdkdaaBits
import Derived.Test.YtalmlgkedcdkdaaGB
namespace Go.Proofs.Ytalmlgkedcdkdaa
open Go.RowKit
set_option linter.unusedSimpArgs false
set_option linter.unusedVariables false

theorem wf_u64 {z : Int} (h : (Lit.int .u64 z).wf = true) : 0 ≤ z ∧ z ≤ 18446744073709551615 := by
  simp [Lit.wf, IntKind.min, IntKind.max, IntKind.signed, IntKind.bits] at h
  omega
theorem cl_of_ints {cs : List Value} (h : R.Ints (List.replicate 2 .u64) cs) : ∃ U : List Int, ClOk U ∧ cs = vrow .u64 U := by
  obtain ⟨ks, kl, rfl, hk⟩ := R.Ints.same h
  exact ⟨ks, ⟨kl, fun z hz => wf_u64 (hk z hz)⟩, rfl⟩
end Go.Proofs.Ytalmlgkedcdkdaa
