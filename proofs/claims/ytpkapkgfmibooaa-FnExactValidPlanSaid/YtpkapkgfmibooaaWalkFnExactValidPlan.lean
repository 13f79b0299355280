/- The program and the reference say the same of which plans are valid: the plain law. No condition. -/
import Derived.Test.YtpkapkgfmibooaaPlanFnExactValidPlan
namespace Go.Proofs.Ytpkapkgfmibooaa.PFnExactValidPlan
open Go.RowKit Go.Proofs.YtpkapkgfmibooaaW.PrintWords Go.Proofs.YtpkapkgfmibooaaW.PrintLast Go.Proofs.YtpkapkgfmibooaaW.PrintMore
set_option linter.unusedSimpArgs false
set_option linter.unusedVariables false

theorem pure (xs : List S78) (hn : xs.length ≤ maxLen) (h : Int) (p : List Int) : Ev (fun k => laws_FnExactValidPlan.f k xs h p) true := by
  have hn : xs.length ≤ 9223372036854775807 := by unfold maxLen at hn; omega
  unfold laws_FnExactValidPlan.f
  refine ev_if (fun _ => ev_eq fun _ => rfl) (fun hp => ?_)
  have hp : p.length ≤ 1048576 := by omega
  refine sized_law xs hn (fun hs => ?_)
  have hm : (xs.map conv).length ≤ 9223372036854775807 := by rw [List.length_map]; exact hn
  refine Ev.bind (toPlotS xs hs) (Ev.bind (toInts p hp) (Ev.bind (a := (okAll (xs.map conv) && VP.restB h (xs.map conv).length p)) ?_ (Ev.bind (toPlotS xs hs) (Ev.bind (toInts p hp) (Ev.bind (plan_i _ h p hm) ?_)))))
  · unfold spec_ValidPlan.f
    exact Ev.bind (plan_s _ h p hm hp) (ev_eq fun _ => rfl)
  · simp only [bne_self_eq_false, Bool.false_eq_true, if_false]
    refine Ev.bind (toPlotS xs hs) (Ev.bind (eqPlotS _ hm) ?_)
    simp only [if_true]
    exact Ev.bind (toInts p hp) (Ev.bind (eqInts p (by omega)) (ev_eq fun _ => rfl))

theorem walk (A : Option Addr) (cap : Nat) (xs : List S78) (hc : xs.length ≤ cap) (hm : xs.length ≤ maxLen) {W : World} (kc : Kd.C k78 W A xs.length xs) (h : Int) (_ : (Lit.int .i64 h).wf = true)
    (A2 : Option Addr) (c2 : Nat) (p : List Int) (hc2 : p.length ≤ c2) (_ : p.length ≤ maxLen) (_ : ∀ x ∈ p, (Lit.int .i64 x).wf = true) (kc2 : Kd.C (Kd.int .i64) W A2 p.length p) :
    Calls Try.prog 7 #[.slice A xs.length cap, .int .i64 h, .slice A2 p.length c2] W fun e w' => e = .returned (.bool true) ∧ Below W.heap.size W w' := by
  obtain ⟨k, hk⟩ := (pure xs hm h p).rounds
  exact laws_FnExactValidPlan.calls k A cap xs h A2 c2 p true W kc hc kc2 hc2 hk
end Go.Proofs.Ytpkapkgfmibooaa.PFnExactValidPlan
