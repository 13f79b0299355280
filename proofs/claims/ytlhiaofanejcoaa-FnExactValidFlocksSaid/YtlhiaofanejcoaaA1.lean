/- Arguments' cells as fields, owners, sets. No condition. -/
import Derived.Test.YtlhiaofanejcoaaR
import Derived.Test.YtlhiaofanejcoaaO1
namespace Go.Proofs.Ytlhiaofanejcoaa
open Go.RowKit
set_option linter.unusedSimpArgs false
set_option linter.unusedVariables false

theorem wf_i8 {z : Int} (h : (Lit.int .i8 z).wf = true) : -128 ≤ z ∧ z ≤ 127 := bounds_i8 h
theorem wf_u8 {z : Int} (h : (Lit.int .u8 z).wf = true) : 0 ≤ z ∧ z ≤ 255 := by
  simp [Lit.wf, IntKind.min, IntKind.max, IntKind.signed, IntKind.bits] at h; omega
theorem wf_i16 {z : Int} (h : (Lit.int .i16 z).wf = true) : -32768 ≤ z ∧ z ≤ 32767 := by
  simp [Lit.wf, IntKind.min, IntKind.max, IntKind.signed, IntKind.bits] at h; omega

abbrev fldKinds : List IntKind := [.i8, .i8] ++ (List.replicate 100 .u8 ++ List.replicate 100 .i16)

theorem fld_of_ints {cs : List Value} (h : R.Ints fldKinds cs) : ∃ F : Fld, F.Ok ∧ cs = F.vals := by
  obtain ⟨c1, c2, rfl, h1, h2⟩ := R.Ints.split h
  obtain ⟨c3, c4, rfl, h3, h4⟩ := R.Ints.split h2
  obtain ⟨a, c, rfl, ha, h1⟩ := h1.cons
  obtain ⟨b, c, rfl, hb, h1⟩ := h1.cons
  obtain rfl := h1.nil
  obtain ⟨ks, kl, rfl, hk⟩ := R.Ints.same h3
  obtain ⟨ss, sl, rfl, hs⟩ := R.Ints.same h4
  exact ⟨⟨a, b, ks, ss⟩, ⟨(wf_i8 ha).1, (wf_i8 ha).2, (wf_i8 hb).1, (wf_i8 hb).2, kl, sl, fun z hz => wf_u8 (hk z hz), fun z hz => wf_i16 (hs z hz)⟩, rfl⟩

theorem os_of_ints {cs : List Value} (h : R.Ints (List.replicate 100 .i8) cs) : ∃ os : List Int, OsOk os ∧ cs = vrow .i8 os := by
  obtain ⟨ks, kl, rfl, hk⟩ := R.Ints.same h
  exact ⟨ks, ⟨kl, fun z hz => wf_i8 (hk z hz)⟩, rfl⟩
end Go.Proofs.Ytlhiaofanejcoaa
