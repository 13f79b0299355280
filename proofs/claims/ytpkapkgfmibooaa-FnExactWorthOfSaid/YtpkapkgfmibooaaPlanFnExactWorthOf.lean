/- What the program and the reference say of plans comes to the same: the plain laws that FnExactWorthOf needs. No condition but the lists' lengths. -/
import Derived.Test.YtpkapkgfmibooaaPlotsFnExactWorthOf
import Derived.Test.YtpkapkgfmibooaaVP
namespace Go.Proofs.Ytpkapkgfmibooaa.PFnExactWorthOf
open Go.RowKit Go.Proofs.YtpkapkgfmibooaaW.PrintWords Go.Proofs.YtpkapkgfmibooaaW.PrintLast Go.Proofs.YtpkapkgfmibooaaW.PrintMore
set_option linter.unusedSimpArgs false
set_option linter.unusedVariables false

theorem toInts_ev (xs : List Int) (hn : xs.length ≤ 9223372036854775807) (d : Nat) : ∀ (i : Int) (acc : List Int), 0 ≤ i → i ≤ xs.length → (xs.length : Int) - i = d → acc.length = xs.length → acc.take i.toNat = xs.take i.toNat →
    Ev (fun k => laws_toInt64S.l0 k xs acc i) xs := by
  induction d with
  | zero =>
    intro i acc h0 h1 hd hl ht
    refine Ev.step (fun k => by simp only [laws_toInt64S.l0]; rw [if_neg (by omega)]) (ev_eq fun k => ?_)
    rw [List.take_of_length_le (by omega), List.take_of_length_le (by omega)] at ht
    rw [ht]
  | succ d ih =>
    intro i acc h0 h1 hd hl ht
    have hlt : i < (xs.length : Int) := by omega
    have hn' : i.toNat < xs.length := by omega
    refine Ev.step (fun k => by simp only [laws_toInt64S.l0]; rw [if_pos hlt, if_pos h0, if_pos (by omega)]) ?_
    rw [wrap_i h0 hlt hn]
    refine ih (i + 1) _ (by omega) (by omega) (by omega) (by simp [hl]) ?_
    rw [show (i + 1).toNat = i.toNat + 1 by omega, List.take_succ_eq_append_getElem (by rw [List.length_set]; omega), List.take_succ_eq_append_getElem hn', List.take_set_of_le (Nat.le_refl _), ht]
    congr 1
    rw [List.getElem_set_self]
    unfold rd
    rw [List.getD_eq_getElem?_getD, List.getElem?_eq_getElem hn']; rfl
theorem toInts (xs : List Int) (hn : xs.length ≤ 1048576) : Ev (fun k => laws_toInt64S.f k xs) xs := by
  unfold laws_toInt64S.f
  simp only [show (0 : Int) ≤ (xs.length : Int) by omega, if_true, Int.toNat_natCast, show xs.length ≤ 35184372088832 by omega]
  exact toInts_ev xs (by omega) xs.length 0 _ (by omega) (by omega) (by omega) (by simp) (by simp)
theorem eqInts_ev (xs : List Int) (hn : xs.length ≤ 9223372036854775807) (d : Nat) : ∀ i : Int, 0 ≤ i → i ≤ xs.length → (xs.length : Int) - i = d → Ev (fun k => laws_eqInt64S.l0 k xs xs i) true := by
  induction d with
  | zero =>
    intro i h0 h1 hd
    exact Ev.step (fun k => by simp only [laws_eqInt64S.l0]; rw [if_neg (by omega)]) (ev_eq fun k => rfl)
  | succ d ih =>
    intro i h0 h1 hd
    have hlt : i < (xs.length : Int) := by omega
    refine Ev.step (fun k => by simp only [laws_eqInt64S.l0]; rw [if_pos hlt, if_pos h0, if_pos hlt]) ?_
    simp only [if_true]
    rw [wrap_i h0 hlt hn]
    exact ih (i + 1) (by omega) (by omega) (by omega)
theorem eqInts (xs : List Int) (hn : xs.length ≤ 9223372036854775807) : Ev (fun k => laws_eqInt64S.f k xs xs) true := by
  unfold laws_eqInt64S.f
  simp only [if_true]
  exact eqInts_ev xs hn xs.length 0 (by omega) (by omega) (by omega)

/-- What the reference asks of one day of a plan. -/
def okAt (h : Int) (p : List Int) (i : Nat) : Bool := inB (rd p (i : Int)) (-1) 19 && (!decide (0 ≤ rd p (i : Int)) || decide (VP.many p (rd p (i : Int)) (i + 1) ≤ h))
def allTo (h : Int) (p : List Int) : Bool := (List.range p.length).all (okAt h p)
theorem all_no {h : Int} {p : List Int} (i : Nat) (hi : i < p.length) (e : okAt h p i = false) : allTo h p = false := by
  unfold allTo
  rw [Bool.eq_false_iff]
  intro ha
  have := List.all_eq_true.1 ha i (List.mem_range.2 hi)
  rw [e] at this
  cases this
theorem all_yes {h : Int} {p : List Int} (e : ∀ i, i < p.length → okAt h p i = true) : allTo h p = true := List.all_eq_true.2 fun i hi => e i (List.mem_range.1 hi)
theorem l1_ev (h : Int) (p : List Int) (hp : p.length ≤ 1048576) (i : Nat) (hi : i < p.length) (R : Bool)
    (hend : Ev (fun k => if rd p (i : Int) ≥ 0 then (if VP.many p (rd p (i : Int)) (i + 1) > h then (some false) else (spec_l07Plan.l0 k h p (wrap64 ((i : Int) + 1)))) else (spec_l07Plan.l0 k h p (wrap64 ((i : Int) + 1)))) R) :
    ∀ e t : Nat, t + e = i + 1 → Ev (fun k => spec_l07Plan.l1 k h p (i : Int) (VP.many p (rd p (i : Int)) t) (t : Int)) R := by
  intro e
  induction e with
  | zero =>
    intro t ht
    obtain rfl : t = i + 1 := by omega
    exact Ev.step (fun k => by simp only [spec_l07Plan.l1]; rw [if_neg (by omega), if_pos (by omega), if_pos (by omega)]) hend
  | succ e ih =>
    intro t ht
    have hb := VP.many_bd p (rd p (i : Int)) t
    have w1 : wrap64 ((t : Int) + 1) = ((t + 1 : Nat) : Int) := by unfold wrap64; omega
    have w2 : wrap64 (VP.many p (rd p (i : Int)) t + 1) = VP.many p (rd p (i : Int)) t + 1 := by unfold wrap64; omega
    have h1 := ih (t + 1) (by omega)
    simp only [VP.many] at h1
    by_cases hq : rd p (t : Int) = rd p (i : Int)
    · rw [if_pos hq] at h1
      exact Ev.step (fun k => by simp only [spec_l07Plan.l1]; rw [if_pos (by omega), if_pos (by omega), if_pos (by omega), if_pos (by omega), if_pos (by omega), if_pos hq, w1, w2]) h1
    · rw [if_neg hq] at h1
      exact Ev.step (fun k => by simp only [spec_l07Plan.l1]; rw [if_pos (by omega), if_pos (by omega), if_pos (by omega), if_pos (by omega), if_pos (by omega), if_neg hq, w1]) h1
theorem l0_ev (h : Int) (p : List Int) (hp : p.length ≤ 1048576) : ∀ d i : Nat, i + d = p.length → (∀ j, j < i → okAt h p j = true) → Ev (fun k => spec_l07Plan.l0 k h p (i : Int)) (allTo h p) := by
  intro d
  induction d with
  | zero =>
    intro i hi hj
    refine Ev.step (fun k => by simp only [spec_l07Plan.l0]; rw [if_neg (by omega)]) (ev_eq fun k => ?_)
    rw [all_yes (fun j hjl => hj j (by omega))]
  | succ d ih =>
    intro i hi hj
    refine Ev.step (fun k => by simp only [spec_l07Plan.l0]; rw [if_pos (by omega), if_pos (by omega), p_in, Option.bind_some]) ?_
    cases hq : inB (rd p (i : Int)) (-1) 19
    · have e : allTo h p = false := all_no i (by omega) (by unfold okAt; rw [hq]; rfl)
      unfold inB at hq
      rw [hq, e]
      exact ev_eq fun k => rfl
    · have hq2 := hq
      unfold inB at hq2
      rw [hq2]
      simp only [if_true]
      refine l1_ev h p hp i (by omega) _ ?_ (i + 1) 0 (by omega)
      have w1 : wrap64 ((i : Int) + 1) = ((i + 1 : Nat) : Int) := by unfold wrap64; omega
      rw [w1]
      have next : okAt h p i = true → Ev (fun k => spec_l07Plan.l0 k h p ((i + 1 : Nat) : Int)) (allTo h p) := fun hk => ih (i + 1) (by omega) (fun j hjl => by
        rcases Nat.lt_or_ge j i with h1 | h1
        · exact hj j h1
        · have e : j = i := by omega
          rw [e]; exact hk)
      by_cases h0 : rd p (i : Int) ≥ 0
      · simp only [if_pos h0]
        by_cases hm : VP.many p (rd p (i : Int)) (i + 1) > h
        · simp only [if_pos hm]
          have e : allTo h p = false := all_no i (by omega) (by
            unfold okAt
            rw [hq, decide_eq_true (show 0 ≤ rd p (i : Int) from h0), decide_eq_false (by omega)]
            rfl)
          rw [e]
          exact ev_eq fun k => rfl
        · simp only [if_neg hm]
          exact next (by
            unfold okAt
            rw [hq, decide_eq_true (show 0 ≤ rd p (i : Int) from h0), decide_eq_true (by omega : VP.many p (rd p (i : Int)) (i + 1) ≤ h)]
            rfl)
      · simp only [if_neg h0]
        exact next (by
          unfold okAt
          rw [hq, decide_eq_false (show ¬ 0 ≤ rd p (i : Int) from h0)]
          rfl)
theorem many_mono (p : List Int) (d : Int) {a b : Nat} (h : a ≤ b) : VP.many p d a ≤ VP.many p d b := by
  induction b with
  | zero =>
    obtain rfl : a = 0 := by omega
    exact Int.le_refl _
  | succ b ih =>
    rcases Nat.lt_or_ge b a with h1 | h1
    · obtain rfl : a = b + 1 := by omega
      exact Int.le_refl _
    · have := ih h1
      simp only [VP.many]
      split <;> omega
theorem many_le (p : List Int) (d h : Int) (h0 : 0 ≤ h) : ∀ n : Nat, (∀ i : Nat, i < n → rd p (i : Int) = d → VP.many p d (i + 1) ≤ h) → VP.many p d n ≤ h
  | 0, _ => h0
  | n + 1, hi => by
    by_cases e : rd p (n : Int) = d
    · exact hi n (by omega) e
    · simp only [VP.many]
      rw [if_neg e]
      exact many_le p d h h0 n (fun i hl he => hi i (by omega) he)
theorem inB_same (a b c : Int) : Go.Proofs.Ytpkapkgfmibooaa.inB a b c = inB a b c := rfl
theorem inB_iff' {a b c : Int} : inB a b c = true ↔ b ≤ a ∧ a ≤ c := by unfold inB; simp
theorem all_rest (h : Int) (p : List Int) (h0 : 0 ≤ h) : allTo h p = ((List.range p.length).all (fun i => inB (rd p (i : Int)) (-1) 19) && decide (VP.mxTo (VP.cntTo p p.length) 19 ≤ h)) := by
  rw [Bool.eq_iff_iff, Bool.and_eq_true, decide_eq_true_iff]
  have out : ∀ i : Nat, p.length ≤ i → rd p (i : Int) = 0 := fun i hi => by
    unfold rd
    rw [Int.toNat_natCast, List.getD_eq_getElem?_getD, List.getElem?_eq_none hi]
    rfl
  constructor
  · intro ha
    have hok : ∀ i, i < p.length → okAt h p i = true := fun i hi => List.all_eq_true.1 ha i (List.mem_range.2 hi)
    have hin : ∀ i, i < p.length → inB (rd p (i : Int)) (-1) 19 = true := fun i hi => by
      have := hok i hi
      unfold okAt at this
      rw [Bool.and_eq_true] at this
      exact this.1
    have h19 : ∀ i : Nat, rd p (i : Int) ≤ 19 := fun i => by
      rcases Nat.lt_or_ge i p.length with hl | hl
      · exact (inB_iff'.1 (hin i hl)).2
      · rw [out i hl]; omega
    refine ⟨List.all_eq_true.2 fun i hi => hin i (List.mem_range.1 hi), (VP.mxTo_le _ h 19).2 fun d hd => ?_⟩
    rw [VP.cnt_many p h19 p.length d (by omega)]
    refine many_le p (d : Int) h h0 p.length fun i hi he => ?_
    have := hok i hi
    unfold okAt at this
    rw [Bool.and_eq_true, Bool.or_eq_true] at this
    rcases this.2 with h1 | h1
    · rw [he] at h1
      simp at h1 <;> omega
    · rw [he] at h1
      exact of_decide_eq_true h1
  · rintro ⟨hr, hm⟩
    have hin : ∀ i, i < p.length → inB (rd p (i : Int)) (-1) 19 = true := fun i hi => List.all_eq_true.1 hr i (List.mem_range.2 hi)
    have h19 : ∀ i : Nat, rd p (i : Int) ≤ 19 := fun i => by
      rcases Nat.lt_or_ge i p.length with hl | hl
      · exact (inB_iff'.1 (hin i hl)).2
      · rw [out i hl]; omega
    refine all_yes fun i hi => ?_
    unfold okAt
    rw [hin i hi, Bool.true_and, Bool.or_eq_true]
    by_cases h1 : 0 ≤ rd p (i : Int)
    · refine .inr (decide_eq_true ?_)
      obtain ⟨d, hd⟩ : ∃ d : Nat, rd p (i : Int) = (d : Int) := ⟨(rd p (i : Int)).toNat, by omega⟩
      have := h19 i
      have h2 := (VP.mxTo_le _ h 19).1 hm d (by omega)
      rw [VP.cnt_many p h19 p.length d (by omega)] at h2
      rw [hd]
      exact Int.le_trans (many_mono p (d : Int) (by omega)) h2
    · exact .inl (by rw [decide_eq_false h1]; rfl)
theorem plan_s (xs : List S76) (h : Int) (p : List Int) (hn : xs.length ≤ 9223372036854775807) (hp : p.length ≤ 1048576) : Ev (fun k => spec_l07Plan.f k xs h p) (okAll xs && VP.restB h xs.length p) := by
  unfold spec_l07Plan.f
  refine Ev.bind (l07Ok xs hn) ?_
  cases hv : okAll xs
  · simp only [Bool.false_eq_true, if_false, Bool.false_and]
    exact Ev.step (fun k => by simp only [spec_l07Plan.j0]; rfl) (ev_eq fun k => rfl)
  · simp only [if_true, Bool.true_and]
    unfold spec_l07Hands.f
    rw [p_in]
    simp only [Option.bind_some]
    cases hh : inB h 1 3
    · have e : VP.restB h xs.length p = false := by unfold VP.restB; rw [inB_same, hh]; rfl
      unfold inB at hh
      rw [hh, e]
      simp only [Bool.false_eq_true, if_false]
      exact Ev.step (fun k => by simp only [spec_l07Plan.j0]; rfl) (ev_eq fun k => rfl)
    · have h0 := (inB_iff'.1 hh).1
      have hh2 := hh
      unfold inB at hh2
      rw [hh2]
      simp only [if_true]
      by_cases hl : p.length = xs.length
      · have e : VP.restB h xs.length p = allTo h p := by
          unfold VP.restB
          rw [inB_same, hh, decide_eq_true hl, all_rest h p (by omega)]
          rfl
        have e2 : ((p.length : Int) != (xs.length : Int)) = false := by rw [hl]; simp
        rw [e]
        refine Ev.step (f := fun k => spec_l07Plan.l0 k h p 0) (fun k => by simp only [spec_l07Plan.j0, e2, Bool.false_eq_true, if_false]) ?_
        exact l0_ev h p hp p.length 0 (by omega) (fun j hj => by omega)
      · have e : VP.restB h xs.length p = false := by unfold VP.restB; rw [inB_same, hh, decide_eq_false hl]; rfl
        have e2 : ((p.length : Int) != (xs.length : Int)) = true := by simp; omega
        rw [e]
        exact Ev.step (fun k => by simp only [spec_l07Plan.j0]; rw [e2]; rfl) (ev_eq fun k => rfl)
theorem plan_i (xs : List S76) (h : Int) (p : List Int) (hn : xs.length ≤ 9223372036854775807) : Ev (fun k => impl_ValidPlan.f k xs h p) (okAll xs && VP.restB h xs.length p) := by
  unfold impl_ValidPlan.f
  exact Ev.bind (iValid xs hn) (ev_eq fun k => rfl)
end Go.Proofs.Ytpkapkgfmibooaa.PFnExactWorthOf
