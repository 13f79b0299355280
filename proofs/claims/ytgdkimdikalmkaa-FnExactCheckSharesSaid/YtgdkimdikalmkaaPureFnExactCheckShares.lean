/- The program's CheckShares answers what the reference's answers, for all arguments: the plain law. No condition. -/
import Derived.Test.YtgdkimdikalmkaaIntFnExactCheckShares
namespace Go.Proofs.Ytgdkimdikalmkaa.PFnExactCheckShares
open Go.RowKit Go.Proofs.YtgdkimdikalmkaaW.PrintWords Go.Proofs.YtgdkimdikalmkaaW.PrintLast Go.Proofs.YtgdkimdikalmkaaW.PrintMore
set_option linter.unusedSimpArgs false
set_option linter.unusedVariables false

def codeOf (l : List Int) (m : Int) : Int := if okAll l m = true then (if wsum l l.length = 0 then (if m = 0 then 0 else 4) else 0) else 2
theorem code_s (l : List Int) (m : Int) (hl : l.length ≤ 1048576) : Ev (fun k => spec_l06Divided.f k l m) (codeOf l m) := by
  unfold spec_l06Divided.f codeOf
  refine Ev.bind (amounts l m hl) ?_
  cases okAll l m with
  | false => exact ev_eq fun k => rfl
  | true =>
    refine Ev.congr (f := fun k => (spec_l06Sum.f k l).bind fun t114 => (if t114 = 0 then (if m = 0 then (some 0) else (some 4)) else (some 0))) (fun k => by simp only [if_true]) (Ev.bind (l06Sum l hl) (ev_eq fun k => ?_))
    simp only [if_true]
    by_cases h : wsum l l.length = 0
    · by_cases h2 : m = 0
      · rw [if_pos h, if_pos h2, if_pos h, if_pos h2]
      · rw [if_pos h, if_neg h2, if_pos h, if_neg h2]
    · rw [if_neg h, if_neg h]
theorem code_i_j0 (l : List Int) (m : Int) (hl : l.length ≤ 1048576) (b : Bool) : Ev (fun k => impl_sharesCode.j0 k l m b) (if b = true then 2 else (if wsum l l.length = 0 then (if m = 0 then 0 else 4) else 0)) := by
  cases b with
  | true =>
    refine Ev.step (f := fun _ => some _) (fun k => ?_) (Ev.now _)
    simp only [impl_sharesCode.j0, if_true]
  | false =>
    refine Ev.step (f := fun k => (impl_total.f k l).bind fun t131 => (if t131 = 0 then (if m = 0 then (some 0) else (some 4)) else (some 0))) (fun k => ?_) (Ev.bind (total l hl) (ev_eq fun k => ?_))
    · simp only [impl_sharesCode.j0, Bool.false_eq_true, if_false]
    · simp only [Bool.false_eq_true, if_false]
      by_cases h : wsum l l.length = 0
      · by_cases h2 : m = 0
        · rw [if_pos h, if_pos h2, if_pos h, if_pos h2]
        · rw [if_pos h, if_neg h2, if_pos h, if_neg h2]
      · rw [if_neg h, if_neg h]
theorem code_i (l : List Int) (m : Int) (hl : l.length ≤ 1048576) : Ev (fun k => impl_sharesCode.f k l m) (codeOf l m) := by
  unfold codeOf
  have hj := code_i_j0 l m hl (!okAll l m)
  refine Ev.congr (f := fun k => impl_sharesCode.j0 k l m (!okAll l m)) (fun k => ?_) ?_
  · unfold impl_sharesCode.f okAll
    rw [areMoneys1]
    simp only [Option.bind_some]
    cases X1.money m with
    | false => simp
    | true =>
      by_cases h : l.length ≤ 100
      · rw [if_pos rfl, if_neg (by omega), areMoneys l (by omega)]
        simp [h]
      · rw [if_pos rfl, if_pos (by omega)]
        simp [h]
  · revert hj
    cases okAll l m <;> simp

theorem both_l0 (am sh : List Int) (m s : Int) (he : sh.length = am.length) (hl : am.length ≤ 1048576) (d : Nat) : ∀ i : Nat, i ≤ sh.length → sh.length - i = d → ∃ r, Ev (fun f => spec_CheckShares.l0 f am m sh s (wsum sh i) (i : Int)) r ∧ Ev (fun f => impl_CheckShares.l0 f m sh s am (am.length : Int) (i : Int)) r := by
  induction d with
  | zero =>
    intro i hi hd
    obtain rfl : i = sh.length := by omega
    refine ⟨(wsum sh sh.length == m, 0), Ev.step (f := fun _ => some _) (fun f => ?_) (Ev.now _), Ev.step (f := fun f => (impl_total.f f sh).bind fun t134 => (some ((t134 == m), 0))) (fun f => ?_) (Ev.bind (total sh (by omega)) (ev_eq fun _ => rfl))⟩
    · simp only [spec_CheckShares.l0]; rw [if_neg (by omega)]
    · simp only [impl_CheckShares.l0]; rw [if_neg (by omega)]
  | succ d ih =>
    intro i hi hd
    obtain ⟨r, h1, h2⟩ := ih (i + 1) (by omega) (by omega)
    have hw : wsum sh (i + 1) = wrap64 (wsum sh i + rd sh (i : Int)) := rfl
    by_cases hs : s > 0
    · generalize hlo : wrap64 (Int.tdiv (wrap64 (m * (rd am (i : Int)))) s) = lo
      generalize hhi : wrap64 (Int.tdiv (wrap64 ((wrap64 ((wrap64 (m * (rd am (i : Int)))) + s)) - 1)) s) = hi'
      cases hb : (decide (lo ≤ rd sh (i : Int)) && decide (rd sh (i : Int) ≤ hi')) with
      | true =>
        refine ⟨r, Ev.step (fun f => ?_) h1, Ev.step (fun f => ?_) h2⟩
        · simp only [spec_CheckShares.l0]
          rw [if_pos (by omega), if_pos hs, if_pos (by omega), if_pos (by omega), if_neg (by omega), hlo, hhi, p_in, hb, wnat (by omega), hw]; rfl
        · simp only [impl_CheckShares.l0]
          rw [if_pos (by omega), if_pos (by omega), if_pos (by omega), if_pos hs, if_neg (by omega), if_pos (by omega), hlo, hhi, p_within, hb, wnat (by omega)]; rfl
      | false =>
        refine ⟨(false, 0), Ev.step (f := fun _ => some (false, 0)) (fun f => ?_) (Ev.now _), Ev.step (f := fun _ => some (false, 0)) (fun f => ?_) (Ev.now _)⟩
        · simp only [spec_CheckShares.l0]
          rw [if_pos (by omega), if_pos hs, if_pos (by omega), if_pos (by omega), if_neg (by omega), hlo, hhi, p_in, hb]; rfl
        · simp only [impl_CheckShares.l0]
          rw [if_pos (by omega), if_pos (by omega), if_pos (by omega), if_pos hs, if_neg (by omega), if_pos (by omega), hlo, hhi, p_within, hb]; rfl
    · cases hb : (decide (0 ≤ rd sh (i : Int)) && decide (rd sh (i : Int) ≤ 0)) with
      | true =>
        refine ⟨r, Ev.step (fun f => ?_) h1, Ev.step (fun f => ?_) h2⟩
        · simp only [spec_CheckShares.l0]
          rw [if_pos (by omega), if_neg hs, if_pos (by omega), p_in, hb, wnat (by omega), hw]; rfl
        · simp only [impl_CheckShares.l0]
          rw [if_pos (by omega), if_pos (by omega), if_pos (by omega), if_neg hs, if_pos (by omega), p_within, hb, wnat (by omega)]; rfl
      | false =>
        refine ⟨(false, 0), Ev.step (f := fun _ => some (false, 0)) (fun f => ?_) (Ev.now _), Ev.step (f := fun _ => some (false, 0)) (fun f => ?_) (Ev.now _)⟩
        · simp only [spec_CheckShares.l0]
          rw [if_pos (by omega), if_neg hs, if_pos (by omega), p_in, hb]; rfl
        · simp only [impl_CheckShares.l0]
          rw [if_pos (by omega), if_pos (by omega), if_pos (by omega), if_neg hs, if_pos (by omega), p_within, hb]; rfl
theorem both (am sh : List Int) (m : Int) (h1 : am.length ≤ 1048576) (h2 : sh.length ≤ 1048576) : ∃ r, Ev (fun f => spec_CheckShares.f f am m sh) r ∧ Ev (fun f => impl_CheckShares.f f am m sh) r := by
  unfold spec_CheckShares.f impl_CheckShares.f
  by_cases hc : codeOf am m = 0
  · by_cases he : sh.length = am.length
    · obtain ⟨r, hs, hi⟩ := both_l0 am sh m (wsum am am.length) he h1 sh.length 0 (by omega) (by omega)
      refine ⟨r, Ev.bind (code_s am m h1) ?_, Ev.bind (code_i am m h1) ?_⟩
      · refine Ev.congr (f := fun k => (spec_l06Sum.f k am).bind fun t116 => (spec_CheckShares.l0 k am m sh t116 0 0)) (fun k => ?_) (Ev.bind (l06Sum am h1) hs)
        rw [if_pos hc, if_pos (by omega)]
      · refine Ev.congr (f := fun k => (impl_total.f k am).bind fun t116 => (impl_CheckShares.l0 k m sh t116 am (am.length : Int) 0)) (fun k => ?_) (Ev.bind (total am h1) hi)
        rw [if_pos hc, if_pos (by omega)]
    · refine ⟨(false, 0), Ev.bind (code_s am m h1) (ev_eq fun k => ?_), Ev.bind (code_i am m h1) (ev_eq fun k => ?_)⟩ <;> rw [if_pos hc, if_neg (by omega)]
  · refine ⟨(false, codeOf am m), Ev.bind (code_s am m h1) (ev_eq fun k => ?_), Ev.bind (code_i am m h1) (ev_eq fun k => ?_)⟩ <;> rw [if_neg hc]
end Go.Proofs.Ytgdkimdikalmkaa.PFnExactCheckShares
namespace Go.Proofs.Ytgdkimdikalmkaa.Pure
open Go.RowKit Go.Proofs.Ytgdkimdikalmkaa.PFnExactCheckShares Go.Proofs.YtgdkimdikalmkaaW.PrintWords Go.Proofs.YtgdkimdikalmkaaW.PrintLast Go.Proofs.YtgdkimdikalmkaaW.PrintMore
theorem FnExactCheckShares : laws_FnExactCheckShares.Pure := by
  intro cl m aw _ _ _ _ _ _ _
  refine Ev.rounds ?_
  unfold laws_FnExactCheckShares.f
  by_cases h1 : (cl.length : Int) > 1048576
  · simp only [h1, if_true]; exact Ev.now _
  by_cases h2 : (aw.length : Int) > 1048576
  · simp only [h1, h2, if_true, if_false]; exact Ev.now _
  simp only [h1, h2, if_false]
  have l1 : cl.length ≤ 1048576 := by omega
  have l2 : aw.length ≤ 1048576 := by omega
  obtain ⟨r, hs, hi⟩ := both cl aw m l1 l2
  refine Ev.bind (toInt64S cl l1) (Ev.bind (toInt64S aw l2) (Ev.bind hs (Ev.bind (toInt64S cl l1) (Ev.bind (toInt64S aw l2) (Ev.bind hi ?_)))))
  have e1 : (r.1 != r.1) = false := by simp
  have e2 : (r.2 != r.2) = false := by simp
  simp only [e1, e2, Bool.false_eq_true, if_false]
  refine Ev.step (fun k => ?_) (tail1 cl l1 (tail1 aw l2 (Ev.now true)))
  simp only [laws_FnExactCheckShares.j0, Bool.false_eq_true, if_false]
end Go.Proofs.Ytgdkimdikalmkaa.Pure
