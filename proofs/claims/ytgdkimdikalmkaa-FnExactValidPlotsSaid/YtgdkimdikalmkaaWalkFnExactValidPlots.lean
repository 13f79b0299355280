/- The program and the reference say the same of which lists of plots are valid: the plain law. No condition. -/
import Derived.Test.YtgdkimdikalmkaaPlotsFnExactValidPlots
namespace Go.Proofs.Ytgdkimdikalmkaa.PFnExactValidPlots
open Go.RowKit Go.Proofs.YtgdkimdikalmkaaW.PrintWords Go.Proofs.YtgdkimdikalmkaaW.PrintLast Go.Proofs.YtgdkimdikalmkaaW.PrintMore
set_option linter.unusedSimpArgs false
set_option linter.unusedVariables false

theorem pure (xs : List S62) (hn : xs.length ≤ maxLen) : Ev (fun k => laws_FnExactValidPlots.f k xs) true := by
  have hn : xs.length ≤ 9223372036854775807 := by unfold maxLen at hn; omega
  unfold laws_FnExactValidPlots.f
  refine sized_law xs hn (fun hs => ?_)
  have hm : (xs.map conv).length ≤ 9223372036854775807 := by rw [List.length_map]; exact hn
  refine Ev.bind (toPlotS xs hs) (Ev.bind (a := okAll (xs.map conv)) ?_ (Ev.bind (toPlotS xs hs) (Ev.bind (iValid _ hm) ?_)))
  · unfold spec_ValidPlots.f
    exact Ev.bind (l07Ok _ hm) (ev_eq fun _ => rfl)
  · simp only [bne_self_eq_false, Bool.false_eq_true, if_false]
    exact Ev.bind (toPlotS xs hs) (Ev.bind (eqPlotS _ hm) (ev_eq fun _ => rfl))

theorem walk (A : Option Addr) (cap : Nat) (xs : List S62) (hc : xs.length ≤ cap) (hm : xs.length ≤ maxLen) {W : World} (kc : Kd.C k62 W A xs.length xs) :
    Calls Try.prog 5 #[.slice A xs.length cap] W fun e w' => e = .returned (.bool true) ∧ Below W.heap.size W w' := by
  obtain ⟨k, hk⟩ := (pure xs hm).rounds
  exact laws_FnExactValidPlots.calls k A cap xs true W kc hc hk
end Go.Proofs.Ytgdkimdikalmkaa.PFnExactValidPlots
