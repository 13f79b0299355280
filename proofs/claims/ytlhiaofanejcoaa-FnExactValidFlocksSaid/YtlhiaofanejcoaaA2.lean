/- An argument that is a flock: its cells as numbers. No condition. -/
import Derived.Test.YtlhiaofanejcoaaK4
import Derived.Test.YtlhiaofanejcoaaA1
namespace Go.Proofs.Ytlhiaofanejcoaa
open Go.RowKit Go.Proofs.Ytlhiaofanejcoaa.PAll
set_option linter.unusedSimpArgs false
set_option linter.unusedVariables false

theorem flk_of_ints {cs : List Value} (h : R.Ints [.i16, .i16, .i16, .i16, .i16, .i8] cs) : ∃ x : S39, FlkOk x ∧ cs = flkVals x := by
  obtain ⟨a, c1, rfl, ha, h⟩ := h.cons
  obtain ⟨b, c2, rfl, hb, h⟩ := h.cons
  obtain ⟨c, c3, rfl, hc, h⟩ := h.cons
  obtain ⟨d, c4, rfl, hd, h⟩ := h.cons
  obtain ⟨e, c5, rfl, he, h⟩ := h.cons
  obtain ⟨f, c6, rfl, hf, h⟩ := h.cons
  obtain rfl := h.nil
  exact ⟨⟨a, b, c, d, e, f⟩, ⟨(wf_i16 ha).1, (wf_i16 ha).2, (wf_i16 hb).1, (wf_i16 hb).2, (wf_i16 hc).1, (wf_i16 hc).2, (wf_i16 hd).1, (wf_i16 hd).2, (wf_i16 he).1, (wf_i16 he).2, (wf_i8 hf).1, (wf_i8 hf).2⟩, rfl⟩
theorem toFlock_any (x : S39) (w : World) : Calls Try.prog 20 #[.agg (flkVals x).toArray] w fun e w' => e = .returned (.agg (flkVals x).toArray) ∧ Below w.heap.size w w' :=
  laws_toFlock.calls x.f0 x.f1 x.f2 x.f3 x.f4 x.f5 _ _ _ _ _ _ w rfl
end Go.Proofs.Ytlhiaofanejcoaa
