/- The codes of amounts and money that is divided, by the program and by the reference. No condition but the lists' lengths. -/
import Derived.Test.YtgdkimdikalmkaaIntAll
namespace Go.Proofs.Ytgdkimdikalmkaa.PAll
open Go.RowKit Go.Proofs.YtgdkimdikalmkaaW.PrintWords Go.Proofs.YtgdkimdikalmkaaW.PrintLast Go.Proofs.YtgdkimdikalmkaaW.PrintMore
set_option linter.unusedSimpArgs false
set_option linter.unusedVariables false

def codeOf (l : List Int) (m : Int) : Int := if okAll l m = true then (if wsum l l.length = 0 then (if m = 0 then 0 else 4) else 0) else 2
theorem code_s (l : List Int) (m : Int) (hl : l.length ≤ 1048576) : Ev (fun k => spec_l06Divided.f k l m) (codeOf l m) := by
  unfold spec_l06Divided.f codeOf
  refine Ev.bind (amounts l m hl) ?_
  cases okAll l m with
  | false => exact ev_eq fun k => rfl
  | true =>
    refine Ev.congr (f := fun k => (spec_l06Sum.f k l).bind fun t114 => (if t114 = 0 then (if m = 0 then (some 0) else (some 4)) else (some 0))) (fun k => by simp only [if_true]) (Ev.bind (l06Sum l hl) (ev_eq fun k => ?_))
    simp only [if_true]
    by_cases h : wsum l l.length = 0
    · by_cases h2 : m = 0
      · rw [if_pos h, if_pos h2, if_pos h, if_pos h2]
      · rw [if_pos h, if_neg h2, if_pos h, if_neg h2]
    · rw [if_neg h, if_neg h]
theorem code_i_j0 (l : List Int) (m : Int) (hl : l.length ≤ 1048576) (b : Bool) : Ev (fun k => impl_sharesCode.j0 k l m b) (if b = true then 2 else (if wsum l l.length = 0 then (if m = 0 then 0 else 4) else 0)) := by
  cases b with
  | true =>
    refine Ev.step (f := fun _ => some _) (fun k => ?_) (Ev.now _)
    simp only [impl_sharesCode.j0, if_true]
  | false =>
    refine Ev.step (f := fun k => (impl_total.f k l).bind fun t131 => (if t131 = 0 then (if m = 0 then (some 0) else (some 4)) else (some 0))) (fun k => ?_) (Ev.bind (total l hl) (ev_eq fun k => ?_))
    · simp only [impl_sharesCode.j0, Bool.false_eq_true, if_false]
    · simp only [Bool.false_eq_true, if_false]
      by_cases h : wsum l l.length = 0
      · by_cases h2 : m = 0
        · rw [if_pos h, if_pos h2, if_pos h, if_pos h2]
        · rw [if_pos h, if_neg h2, if_pos h, if_neg h2]
      · rw [if_neg h, if_neg h]
theorem code_i (l : List Int) (m : Int) (hl : l.length ≤ 1048576) : Ev (fun k => impl_sharesCode.f k l m) (codeOf l m) := by
  unfold codeOf
  have hj := code_i_j0 l m hl (!okAll l m)
  refine Ev.congr (f := fun k => impl_sharesCode.j0 k l m (!okAll l m)) (fun k => ?_) ?_
  · unfold impl_sharesCode.f okAll
    rw [areMoneys1]
    simp only [Option.bind_some]
    cases X1.money m with
    | false => simp
    | true =>
      by_cases h : l.length ≤ 100
      · rw [if_pos rfl, if_neg (by omega), areMoneys l (by omega)]
        simp [h]
      · rw [if_pos rfl, if_pos (by omega)]
        simp [h]
  · revert hj
    cases okAll l m <;> simp

end Go.Proofs.Ytgdkimdikalmkaa.PAll
