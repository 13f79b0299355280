/- The program's SharesOf answers what the reference's answers, for all arguments: the plain law. No condition. -/
import Derived.Test.YtgdkimdikalmkaaIntFnExactSharesOf
namespace Go.Proofs.Ytgdkimdikalmkaa.PFnExactSharesOf
open Go.RowKit Go.Proofs.YtgdkimdikalmkaaW.PrintWords Go.Proofs.YtgdkimdikalmkaaW.PrintLast Go.Proofs.YtgdkimdikalmkaaW.PrintMore
set_option linter.unusedSimpArgs false
set_option linter.unusedVariables false

theorem both (cl : List Int) (m : Int) (h1 : cl.length ≤ 1048576) : ∃ r, r.1.length ≤ 1048576 ∧ Ev (fun (f : Nat) => spec_SharesOf.f cl m) r ∧ Ev (fun (f : Nat) => impl_SharesOf.f cl m) r := by
  refine ⟨shRes cl m, shRes_len cl m h1, ev_eq fun _ => ?_, ev_eq fun _ => ?_⟩
  · unfold spec_SharesOf.f
    rw [if_pos h1]
  · unfold impl_SharesOf.f
    rw [if_pos h1]
end Go.Proofs.Ytgdkimdikalmkaa.PFnExactSharesOf
namespace Go.Proofs.Ytgdkimdikalmkaa.Pure
open Go.RowKit Go.Proofs.Ytgdkimdikalmkaa.PFnExactSharesOf Go.Proofs.YtgdkimdikalmkaaW.PrintWords Go.Proofs.YtgdkimdikalmkaaW.PrintLast Go.Proofs.YtgdkimdikalmkaaW.PrintMore
theorem FnExactSharesOf : laws_FnExactSharesOf.Pure := by
  intro cl m _ _ _ _
  refine Ev.rounds ?_
  unfold laws_FnExactSharesOf.f
  by_cases h1 : (cl.length : Int) > 1048576
  · simp only [h1, if_true]; exact Ev.now _
  simp only [h1, if_false]
  have l1 : cl.length ≤ 1048576 := by omega
  obtain ⟨r, hr, hs, hi⟩ := both cl m l1
  have e2 : (r.2 != r.2) = false := by simp
  refine Ev.bind (toInt64S cl l1) (Ev.bind hs (Ev.bind (toInt64S cl l1) (Ev.bind hi (Ev.bind (eqInt64S r.1 hr) ?_))))
  simp only [e2, if_true]
  have hj2 : Ev (fun k => laws_FnExactSharesOf.j2 k (mks r.1.length) (1 + (r.1.length : Int)) false) true := by
    refine Ev.step (fun k => ?_) (held_if hr (Ev.now true))
    simp only [laws_FnExactSharesOf.j2, Bool.false_eq_true, if_false]
  have hj1 : Ev (fun k => laws_FnExactSharesOf.j1 k cl m r.1 r.2 r.1 false) true := by
    refine Ev.step (f := fun k => (laws_markInt64S.f k r.1 1).bind fun bt199 => ((laws_heldInt64S.f k bt199.2 1).bind fun t201 => (if t201 < 0 then (some false) else (if t201 = bt199.1 then ((laws_toInt64S.f k cl).bind fun t202 => ((impl_SharesOf.f t202 m).bind fun bt205 => ((laws_eqInt64S.f k bt205.1 r.1).bind fun t209 => (if t209 = true then (laws_FnExactSharesOf.j2 k bt199.2 bt199.1 (bt205.2 != r.2)) else (laws_FnExactSharesOf.j2 k bt199.2 bt199.1 true))))) else (some false))))) (fun k => ?_)
      (Ev.bind (markAll r.1 hr) (held_if hr (Ev.bind (toInt64S cl l1) (Ev.bind hi (Ev.bind (eqInt64S r.1 hr) (Ev.congr (fun k => ?_) hj2))))))
    · simp only [laws_FnExactSharesOf.j1, Bool.false_eq_true, if_false]
    · simp only [e2, if_true]
  refine Ev.step (f := fun k => (laws_toInt64S.f k cl).bind fun t192 => ((laws_eqInt64S.f k cl t192).bind fun t195 => (if t195 = true then ((laws_markInt64S.f k cl 1).bind fun bt196 => (if bt196.1 < 0 then (laws_FnExactSharesOf.j1 k cl m r.1 r.2 r.1 true) else ((laws_eqInt64S.f k r.1 r.1).bind fun t198 => (if t198 = true then (laws_FnExactSharesOf.j1 k cl m r.1 r.2 r.1 (r.2 != r.2)) else (laws_FnExactSharesOf.j1 k cl m r.1 r.2 r.1 true))))) else (some false)))) (fun k => ?_)
    (tail1 cl l1 (Ev.bind (markAll cl l1) (Ev.congr (f := fun k => (laws_eqInt64S.f k r.1 r.1).bind fun t198 => (if t198 = true then (laws_FnExactSharesOf.j1 k cl m r.1 r.2 r.1 (r.2 != r.2)) else (laws_FnExactSharesOf.j1 k cl m r.1 r.2 r.1 true))) (fun k => ?_) (Ev.bind (eqInt64S r.1 hr) (Ev.congr (fun k => ?_) hj1)))))
  · simp only [laws_FnExactSharesOf.j0, Bool.false_eq_true, if_false]
  · rw [if_neg (by omega)]
  · simp only [e2, if_true]
end Go.Proofs.Ytgdkimdikalmkaa.Pure
