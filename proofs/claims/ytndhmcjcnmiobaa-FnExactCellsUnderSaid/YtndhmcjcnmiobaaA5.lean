/- An argument that is a net: its cells as numbers. No condition. -/
import Derived.Test.YtndhmcjcnmiobaaN4
import Derived.Test.YtndhmcjcnmiobaaGB
namespace Go.Proofs.Ytndhmcjcnmiobaa
open Go.RowKit Go.Proofs.Ytndhmcjcnmiobaa.PAll
set_option linter.unusedSimpArgs false
set_option linter.unusedVariables false

theorem net_of_ints {cs : List Value} (h : R.Ints [.i8, .i8, .i8, .i8] cs) : ∃ n : Nt, n.Ok ∧ cs = n.vals := by
  obtain ⟨a, c1, rfl, ha, h⟩ := h.cons
  obtain ⟨b, c2, rfl, hb, h⟩ := h.cons
  obtain ⟨c, c3, rfl, hc, h⟩ := h.cons
  obtain ⟨d, c4, rfl, hd, h⟩ := h.cons
  obtain rfl := h.nil
  exact ⟨⟨a, b, c, d⟩, ⟨(wf_i8 ha).1, (wf_i8 ha).2, (wf_i8 hb).1, (wf_i8 hb).2, (wf_i8 hc).1, (wf_i8 hc).2, (wf_i8 hd).1, (wf_i8 hd).2⟩, rfl⟩
theorem toNet_any (n : Nt) (w : World) : Calls Try.prog 16 #[.agg n.vals.toArray] w fun e w' => e = .returned (.agg n.vals.toArray) ∧ Below w.heap.size w w' :=
  laws_toNet.calls n.x n.y n.wide n.high _ _ _ _ w rfl
end Go.Proofs.Ytndhmcjcnmiobaa
