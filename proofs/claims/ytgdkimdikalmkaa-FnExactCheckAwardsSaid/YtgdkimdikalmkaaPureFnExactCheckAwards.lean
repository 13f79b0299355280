/- The program's CheckAwards answers what the reference's answers, for all arguments: the plain law. No condition. -/
import Derived.Test.YtgdkimdikalmkaaIntFnExactCheckAwards
namespace Go.Proofs.Ytgdkimdikalmkaa.PFnExactCheckAwards
open Go.RowKit Go.Proofs.YtgdkimdikalmkaaW.PrintWords Go.Proofs.YtgdkimdikalmkaaW.PrintLast Go.Proofs.YtgdkimdikalmkaaW.PrintMore
set_option linter.unusedSimpArgs false
set_option linter.unusedVariables false

/-- An award that is cut (a), beside a greater one (b). -/
def Bad (cl aw : List Int) (a b : Nat) : Prop := rd aw (a : Int) < rd cl (a : Int) ∧ rd aw (b : Int) > wrap64 (rd aw (a : Int) + 1)
def fin (cl aw : List Int) (m : Int) : Bool × Int := (wsum aw aw.length == mn m (wsum cl cl.length), 0)

theorem s_l2 (cl aw : List Int) (m : Int) (he : aw.length = cl.length) (hl : cl.length ≤ 1048576) (i : Nat) (hi : i < aw.length) (r : Bool × Int) (d : Nat) : ∀ k : Nat, k ≤ aw.length → aw.length - k = d →
    ((∃ k' : Nat, k ≤ k' ∧ k' < aw.length ∧ Bad cl aw k' i) → r = (false, 0)) → ((∀ k' : Nat, k ≤ k' → k' < aw.length → ¬ Bad cl aw k' i) → Ev (fun f => spec_CheckAwards.l1 f cl m aw ((i + 1 : Nat) : Int)) r) →
    Ev (fun f => spec_CheckAwards.l2 f cl m aw (i : Int) (k : Int)) r := by
  induction d with
  | zero =>
    intro k hk hd h1 h2
    refine Ev.step (fun f => ?_) (h2 fun k' a b => by omega)
    simp only [spec_CheckAwards.l2]
    rw [if_neg (by omega), wnat (by omega)]
  | succ d ih =>
    intro k hk hd h1 h2
    by_cases hb : Bad cl aw k i
    · obtain rfl := h1 ⟨k, by omega, by omega, hb⟩
      refine Ev.step (f := fun _ => some (false, 0)) (fun f => ?_) (Ev.now _)
      simp only [spec_CheckAwards.l2]
      rw [if_pos (by omega), if_pos (by omega), if_pos (by omega), if_pos hb.1, if_pos (by omega), if_pos (by omega), if_pos hb.2]
    · refine Ev.step (fun f => ?_) (ih (k + 1) (by omega) (by omega) (fun ⟨k', a, b, c⟩ => h1 ⟨k', by omega, b, c⟩) (fun h => h2 fun k' a b => by
        by_cases e : k' = k
        · rw [e]; exact hb
        · exact h k' (by omega) b))
      simp only [spec_CheckAwards.l2]
      rw [if_pos (by omega), if_pos (by omega), if_pos (by omega), wnat (by omega)]
      by_cases h3 : rd aw (k : Int) < rd cl (k : Int)
      · rw [if_pos h3, if_pos (by omega), if_pos (by omega), if_neg (fun h4 => hb ⟨h3, h4⟩)]
      · rw [if_neg h3]
theorem s_l1 (cl aw : List Int) (m : Int) (he : aw.length = cl.length) (hl : cl.length ≤ 1048576) (r : Bool × Int) (d : Nat) : ∀ i : Nat, i ≤ aw.length → aw.length - i = d →
    ((∃ i' k' : Nat, i ≤ i' ∧ i' < aw.length ∧ k' < aw.length ∧ Bad cl aw k' i') → r = (false, 0)) → ((∀ i' k' : Nat, i ≤ i' → i' < aw.length → k' < aw.length → ¬ Bad cl aw k' i') → r = fin cl aw m) →
    Ev (fun f => spec_CheckAwards.l1 f cl m aw (i : Int)) r := by
  induction d with
  | zero =>
    intro i hi hd h1 h2
    obtain rfl := h2 (fun i' k' a b => by omega)
    refine Ev.step (f := fun f => (spec_l06Sum.f f aw).bind fun t110 => ((spec_l06Sum.f f cl).bind fun t111 => ((spec_l00Min.f m t111).bind fun t112 => (some ((t110 == t112), 0))))) (fun f => ?_) ?_
    · simp only [spec_CheckAwards.l1]
      rw [if_neg (by omega)]
    · refine Ev.bind (l06Sum aw (by omega)) (Ev.bind (l06Sum cl hl) (ev_eq fun _ => ?_))
      rw [min_s]; rfl
  | succ d ih =>
    intro i hi hd h1 h2
    refine Ev.step (f := fun f => spec_CheckAwards.l2 f cl m aw (i : Int) ((0 : Nat) : Int)) (fun f => ?_) (s_l2 cl aw m he hl i (by omega) r aw.length 0 (by omega) (by omega) (fun ⟨k', a, b, c⟩ => h1 ⟨i, k', by omega, by omega, b, c⟩) (fun h => ih (i + 1) (by omega) (by omega) (fun ⟨i', k', a, b, c, e⟩ => h1 ⟨i', k', by omega, b, c, e⟩) (fun h' => h2 fun i' k' a b c => by
      by_cases e : i' = i
      · rw [e]; exact h k' (by omega) c
      · exact h' i' k' (by omega) b c)))
    simp only [spec_CheckAwards.l1]
    rw [if_pos (by omega)]
    rfl
theorem i_l2 (cl aw : List Int) (m : Int) (he : aw.length = cl.length) (hl : cl.length ≤ 1048576) (i : Nat) (hi : i < aw.length) (r : Bool × Int) (d : Nat) : ∀ k : Nat, k ≤ aw.length → aw.length - k = d →
    ((∃ k' : Nat, k ≤ k' ∧ k' < aw.length ∧ Bad cl aw i k') → r = (false, 0)) → ((∀ k' : Nat, k ≤ k' → k' < aw.length → ¬ Bad cl aw i k') → Ev (fun f => impl_CheckAwards.l1 f cl m aw aw (aw.length : Int) ((i + 1 : Nat) : Int)) r) →
    Ev (fun f => impl_CheckAwards.l2 f cl m aw (i : Int) (rd aw (i : Int)) aw (aw.length : Int) (i : Int) aw (aw.length : Int) (k : Int)) r := by
  induction d with
  | zero =>
    intro k hk hd h1 h2
    refine Ev.step (fun f => ?_) (h2 fun k' a b => by omega)
    simp only [impl_CheckAwards.l2]
    rw [if_neg (by omega), wnat (by omega)]
  | succ d ih =>
    intro k hk hd h1 h2
    by_cases hb : Bad cl aw i k
    · obtain rfl := h1 ⟨k, by omega, by omega, hb⟩
      refine Ev.step (f := fun _ => some (false, 0)) (fun f => ?_) (Ev.now _)
      simp only [impl_CheckAwards.l2]
      rw [if_pos (by omega), if_pos (by omega), if_pos (by omega), if_pos (by omega), if_pos (by omega), if_pos hb.1, if_pos hb.2]
    · refine Ev.step (fun f => ?_) (ih (k + 1) (by omega) (by omega) (fun ⟨k', a, b, c⟩ => h1 ⟨k', by omega, b, c⟩) (fun h => h2 fun k' a b => by
        by_cases e : k' = k
        · rw [e]; exact hb
        · exact h k' (by omega) b))
      simp only [impl_CheckAwards.l2]
      rw [if_pos (by omega), if_pos (by omega), if_pos (by omega), if_pos (by omega), if_pos (by omega), wnat (by omega)]
      by_cases h3 : rd aw (i : Int) < rd cl (i : Int)
      · rw [if_pos h3, if_neg (fun h4 => hb ⟨h3, h4⟩)]
      · rw [if_neg h3]
theorem i_l1 (cl aw : List Int) (m : Int) (he : aw.length = cl.length) (hl : cl.length ≤ 1048576) (r : Bool × Int) (d : Nat) : ∀ i : Nat, i ≤ aw.length → aw.length - i = d →
    ((∃ i' k' : Nat, i ≤ i' ∧ i' < aw.length ∧ k' < aw.length ∧ Bad cl aw i' k') → r = (false, 0)) → ((∀ i' k' : Nat, i ≤ i' → i' < aw.length → k' < aw.length → ¬ Bad cl aw i' k') → r = fin cl aw m) →
    Ev (fun f => impl_CheckAwards.l1 f cl m aw aw (aw.length : Int) (i : Int)) r := by
  induction d with
  | zero =>
    intro i hi hd h1 h2
    obtain rfl := h2 (fun i' k' a b => by omega)
    refine Ev.step (f := fun f => (impl_total.f f aw).bind fun t132 => ((impl_total.f f cl).bind fun t133 => (some ((t132 == (mn m t133)), 0)))) (fun f => ?_) ?_
    · simp only [impl_CheckAwards.l1]
      rw [if_neg (by omega)]
    · exact Ev.bind (total aw (by omega)) (Ev.bind (total cl hl) (ev_eq fun _ => rfl))
  | succ d ih =>
    intro i hi hd h1 h2
    refine Ev.step (f := fun f => impl_CheckAwards.l2 f cl m aw (i : Int) (rd aw (i : Int)) aw (aw.length : Int) (i : Int) aw (aw.length : Int) ((0 : Nat) : Int)) (fun f => ?_) (i_l2 cl aw m he hl i (by omega) r aw.length 0 (by omega) (by omega) (fun ⟨k', a, b, c⟩ => h1 ⟨i, k', by omega, by omega, b, c⟩) (fun h => ih (i + 1) (by omega) (by omega) (fun ⟨i', k', a, b, c, e⟩ => h1 ⟨i', k', by omega, b, c, e⟩) (fun h' => h2 fun i' k' a b c => by
      by_cases e : i' = i
      · rw [e]; exact h k' (by omega) c
      · exact h' i' k' (by omega) b c)))
    simp only [impl_CheckAwards.l1]
    rw [if_pos (by omega), if_pos (by omega), if_pos (by omega)]
    rfl
open Classical in
theorem both_l1 (cl aw : List Int) (m : Int) (he : aw.length = cl.length) (hl : cl.length ≤ 1048576) : ∃ r, Ev (fun f => spec_CheckAwards.l1 f cl m aw 0) r ∧ Ev (fun f => impl_CheckAwards.l1 f cl m aw aw (aw.length : Int) 0) r := by
  by_cases h : ∃ a b : Nat, a < aw.length ∧ b < aw.length ∧ Bad cl aw a b
  · refine ⟨(false, 0), s_l1 cl aw m he hl _ aw.length 0 (by omega) (by omega) (fun _ => rfl) (fun h' => ?_), i_l1 cl aw m he hl _ aw.length 0 (by omega) (by omega) (fun _ => rfl) (fun h' => ?_)⟩
    · obtain ⟨a, b, ha, hb, hh⟩ := h
      exact absurd hh (h' b a (by omega) hb ha)
    · obtain ⟨a, b, ha, hb, hh⟩ := h
      exact absurd hh (h' a b (by omega) ha hb)
  · refine ⟨fin cl aw m, s_l1 cl aw m he hl _ aw.length 0 (by omega) (by omega) (fun ⟨i', k', a, b, c, e⟩ => absurd ⟨k', i', c, b, e⟩ h) (fun _ => rfl), i_l1 cl aw m he hl _ aw.length 0 (by omega) (by omega) (fun ⟨i', k', a, b, c, e⟩ => absurd ⟨i', k', b, c, e⟩ h) (fun _ => rfl)⟩
theorem both_l0 (cl aw : List Int) (m : Int) (he : aw.length = cl.length) (hl : cl.length ≤ 1048576) (r : Bool × Int) (hs : Ev (fun f => spec_CheckAwards.l1 f cl m aw 0) r) (hi : Ev (fun f => impl_CheckAwards.l1 f cl m aw aw (aw.length : Int) 0) r) (d : Nat) :
    ∀ i : Nat, i ≤ aw.length → aw.length - i = d → ∃ r, Ev (fun f => spec_CheckAwards.l0 f cl m aw (i : Int)) r ∧ Ev (fun f => impl_CheckAwards.l0 f cl m aw aw (aw.length : Int) (i : Int)) r := by
  induction d with
  | zero =>
    intro i hi' hd
    refine ⟨r, Ev.step (fun f => ?_) hs, Ev.step (fun f => ?_) hi⟩
    · simp only [spec_CheckAwards.l0]; rw [if_neg (by omega)]
    · simp only [impl_CheckAwards.l0]; rw [if_neg (by omega)]
  | succ d ih =>
    intro i hi' hd
    cases hb : (decide (0 ≤ rd aw (i : Int)) && decide (rd aw (i : Int) ≤ rd cl (i : Int))) with
    | true =>
      obtain ⟨r, h1, h2⟩ := ih (i + 1) (by omega) (by omega)
      refine ⟨r, Ev.step (fun f => ?_) h1, Ev.step (fun f => ?_) h2⟩
      · simp only [spec_CheckAwards.l0]; rw [if_pos (by omega), if_pos (by omega), if_pos (by omega), p_in, hb, wnat (by omega)]; rfl
      · simp only [impl_CheckAwards.l0]; rw [if_pos (by omega), if_pos (by omega), if_pos (by omega), if_pos (by omega), p_within, hb, wnat (by omega)]; rfl
    | false =>
      refine ⟨(false, 0), Ev.step (f := fun _ => some (false, 0)) (fun f => ?_) (Ev.now _), Ev.step (f := fun _ => some (false, 0)) (fun f => ?_) (Ev.now _)⟩
      · simp only [spec_CheckAwards.l0]; rw [if_pos (by omega), if_pos (by omega), if_pos (by omega), p_in, hb]; rfl
      · simp only [impl_CheckAwards.l0]; rw [if_pos (by omega), if_pos (by omega), if_pos (by omega), if_pos (by omega), p_within, hb]; rfl
theorem both (cl aw : List Int) (m : Int) (h1 : cl.length ≤ 1048576) (h2 : aw.length ≤ 1048576) : ∃ r, Ev (fun f => spec_CheckAwards.f f cl m aw) r ∧ Ev (fun f => impl_CheckAwards.f f cl m aw) r := by
  cases hm : okAll cl m with
  | false =>
    refine ⟨(false, 2), Ev.bind (amounts cl m h1) (ev_eq fun _ => by rw [hm]; rfl), ev_eq fun _ => ?_⟩
    unfold impl_CheckAwards.f
    rw [areClaims, hm]; rfl
  | true =>
    by_cases he : aw.length = cl.length
    · obtain ⟨r1, hs, hi⟩ := both_l1 cl aw m he h1
      obtain ⟨r, hs, hi⟩ := both_l0 cl aw m he h1 r1 hs hi aw.length 0 (by omega) (by omega)
      refine ⟨r, Ev.bind (amounts cl m h1) ?_, Ev.congr (fun f => ?_) hi⟩
      · rw [hm]
        refine Ev.congr (fun f => ?_) hs
        rw [if_pos rfl, if_pos (by omega)]
        rfl
      · unfold impl_CheckAwards.f
        rw [areClaims, hm]
        simp only [Option.bind_some, if_true]
        rw [if_pos (by omega)]
        rfl
    · refine ⟨(false, 0), Ev.bind (amounts cl m h1) (ev_eq fun f => ?_), ev_eq fun f => ?_⟩
      · rw [hm, if_pos rfl, if_neg (by omega)]
      · unfold impl_CheckAwards.f
        rw [areClaims, hm]
        simp only [Option.bind_some, if_true]
        rw [if_neg (by omega)]
end Go.Proofs.Ytgdkimdikalmkaa.PFnExactCheckAwards
namespace Go.Proofs.Ytgdkimdikalmkaa.Pure
open Go.RowKit Go.Proofs.Ytgdkimdikalmkaa.PFnExactCheckAwards Go.Proofs.YtgdkimdikalmkaaW.PrintWords Go.Proofs.YtgdkimdikalmkaaW.PrintLast Go.Proofs.YtgdkimdikalmkaaW.PrintMore
theorem FnExactCheckAwards : laws_FnExactCheckAwards.Pure := by
  intro cl m aw _ _ _ _ _ _ _
  refine Ev.rounds ?_
  unfold laws_FnExactCheckAwards.f
  by_cases h1 : (cl.length : Int) > 1048576
  · simp only [h1, if_true]; exact Ev.now _
  by_cases h2 : (aw.length : Int) > 1048576
  · simp only [h1, h2, if_true, if_false]; exact Ev.now _
  simp only [h1, h2, if_false]
  have l1 : cl.length ≤ 1048576 := by omega
  have l2 : aw.length ≤ 1048576 := by omega
  obtain ⟨r, hs, hi⟩ := both cl aw m l1 l2
  refine Ev.bind (toInt64S cl l1) (Ev.bind (toInt64S aw l2) (Ev.bind hs (Ev.bind (toInt64S cl l1) (Ev.bind (toInt64S aw l2) (Ev.bind hi ?_)))))
  have e1 : (r.1 != r.1) = false := by simp
  have e2 : (r.2 != r.2) = false := by simp
  simp only [e1, e2, Bool.false_eq_true, if_false]
  refine Ev.step (fun k => ?_) (tail1 cl l1 (tail1 aw l2 (Ev.now true)))
  simp only [laws_FnExactCheckAwards.j0, Bool.false_eq_true, if_false]
end Go.Proofs.Ytgdkimdikalmkaa.Pure
