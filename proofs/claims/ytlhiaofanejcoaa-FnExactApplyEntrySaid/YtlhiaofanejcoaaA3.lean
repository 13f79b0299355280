/- An argument that is an entry: its cells as numbers. No condition. -/
import Derived.Test.YtlhiaofanejcoaaK8
import Derived.Test.YtlhiaofanejcoaaA1
namespace Go.Proofs.Ytlhiaofanejcoaa
open Go.RowKit Go.Proofs.Ytlhiaofanejcoaa.PAll
set_option linter.unusedSimpArgs false
set_option linter.unusedVariables false

theorem ent_of_ints {cs : List Value} (h : R.Ints [.i8, .i16, .i16] cs) : ∃ x : S73, EntOk x ∧ cs = entVals x := by
  obtain ⟨a, c1, rfl, ha, h⟩ := h.cons
  obtain ⟨b, c2, rfl, hb, h⟩ := h.cons
  obtain ⟨c, c3, rfl, hc, h⟩ := h.cons
  obtain rfl := h.nil
  exact ⟨⟨a, b, c⟩, ⟨(wf_i8 ha).1, (wf_i8 ha).2, (wf_i16 hb).1, (wf_i16 hb).2, (wf_i16 hc).1, (wf_i16 hc).2⟩, rfl⟩
theorem toEntry_any (x : S73) (w : World) : Calls Try.prog 45 #[.agg (entVals x).toArray] w fun e w' => e = .returned (.agg (entVals x).toArray) ∧ Below w.heap.size w w' :=
  laws_toEntry.calls x.f0 x.f1 x.f2 _ _ _ w rfl
end Go.Proofs.Ytlhiaofanejcoaa
