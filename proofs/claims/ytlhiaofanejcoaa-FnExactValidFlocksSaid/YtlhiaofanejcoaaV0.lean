/- A cell of a field is a number below 100. No condition. -/
import Derived.Test.YtlhiaofanejcoaaF1
namespace Go.Proofs.Ytlhiaofanejcoaa
theorem has_nat {F : Fld} {c : Int} (h : F.has c = true) : ∃ k : Nat, c = (k : Int) ∧ k < 100 := by
  unfold Fld.has at h
  rw [Bool.and_eq_true] at h
  obtain ⟨a, b⟩ := inB_iff.1 h.1
  exact ⟨c.toNat, by omega, by omega⟩
end Go.Proofs.Ytlhiaofanejcoaa
