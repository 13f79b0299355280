/- Shares sum to the money, and no share is off by 1 or more; awards are no more than claims, sum to what there is, and those that are cut are equal but for 1; what is checked is what is told: the plain law, joined. No condition. -/
import Derived.Test.YtgdkimdikalmkaaFS4
namespace Go.Proofs.Ytgdkimdikalmkaa.Pure
open Go.RowKit Go.Proofs.Ytgdkimdikalmkaa.PFnShares Go.Proofs.YtgdkimdikalmkaaW.PrintWords Go.Proofs.YtgdkimdikalmkaaW.PrintLast Go.Proofs.YtgdkimdikalmkaaW.PrintMore
theorem FnShares : laws_FnShares.Pure := by
  intro code more _ _ hb _ _ hb2
  suffices h : Ev (fun k => laws_FnShares.f k code more) true by
    obtain ⟨k, hk⟩ := h
    exact ⟨k, hk k (Nat.le_refl _)⟩
  obtain ⟨am, hr, hl, hx⟩ := amounts_some hb
  obtain ⟨p, hp, p0, p1, p2⟩ := at_some hb2 0 256 (by omega) (by omega)
  obtain ⟨q, hq, q0, q1, q2⟩ := at_some hb2 1 256 (by omega) (by omega)
  have e : wrap64 (p + wrap64 (7 * q)) = p + 7 * q := by unfold wrap64; omega
  have hf : Few am (p + 7 * q) := few hl hx (by omega) (by omega)
  have hlong : ∃ b, laws_a2Long.f code more = some b := by
    unfold laws_a2Long.f
    split <;> exact ⟨_, rfl⟩
  obtain ⟨b, hlong⟩ := hlong
  unfold laws_FnShares.f
  rw [hlong]
  cases b with
  | true => exact Ev.now _
  | false =>
    refine Ev.bind (g := fun _ => some false) (Ev.now _) (Ev.congr (f := fun k => (spec_A2Amounts.f k code).bind fun t229 => (laws_FnShares.l0 k more t229 (p + 7 * q) 0 0)) (fun k => ?_) (Ev.bind hr (l0_ok hf hb2 am.length 0 (by omega))))
    rw [if_neg (by decide)]
    simp only [hp, hq, Option.bind_some, e]
end Go.Proofs.Ytgdkimdikalmkaa.Pure
