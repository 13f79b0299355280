/- What the program and the reference say of lists of whole numbers comes to the same: the plain laws that FnShares needs. No condition but the lists' lengths. -/
import Derived.Test.YtgdkimdikalmkaaPFnSharesx5
namespace Go.Proofs.Ytgdkimdikalmkaa.PFnShares
open Go.RowKit Go.Proofs.YtgdkimdikalmkaaW.PrintWords Go.Proofs.YtgdkimdikalmkaaW.PrintLast Go.Proofs.YtgdkimdikalmkaaW.PrintMore
set_option linter.unusedSimpArgs false
set_option linter.unusedVariables false

theorem ev_eq {α : Type} {r : α} {g : Nat → Option α} (h : ∀ k, g k = some r) : Ev g r := ⟨0, fun k _ => h k⟩
theorem ev_if {α : Type} {c : Prop} [Decidable c] {g f : Nat → Option α} {r : α} (h1 : c → Ev g r) (h2 : ¬ c → Ev f r) : Ev (fun k => if c then g k else f k) r := by
  by_cases h : c
  · simp only [h, if_true]; exact h1 h
  · simp only [h, if_false]; exact h2 h
theorem wnat {i : Nat} (h : i ≤ 1048577) : wrap64 ((i : Int) + 1) = ((i + 1 : Nat) : Int) := by unfold wrap64; omega
theorem rd_get {l : List Int} {i : Nat} (h : i < l.length) : rd l (i : Int) = l[i] := by simp [rd, List.getD_eq_getElem?_getD, List.getElem?_eq_getElem h]
theorem drop_rd (xs : List Int) {i : Nat} (h : i < xs.length) : xs.drop i = rd xs (i : Int) :: xs.drop (i + 1) := by
  rw [rd_get h]; exact List.drop_eq_getElem_cons h
theorem rd_mem {l : List Int} {i : Nat} (h : i < l.length) : rd l (i : Int) ∈ l := by rw [rd_get h]; exact List.getElem_mem h


/-! ### amounts and sums -/
theorem p_within (a b c : Int) : impl_within.f a b c = some (decide (b ≤ a) && decide (a ≤ c)) := by
  unfold impl_within.f; by_cases h : a ≥ b <;> simp [h]
theorem p_in (a b c : Int) : spec_l00In.f a b c = some (decide (b ≤ a) && decide (a ≤ c)) := by
  unfold spec_l00In.f; by_cases h : a ≥ b <;> simp [h]
theorem p_money (n : Int) : spec_l06Money.f n = some (X1.money n) := by
  unfold spec_l06Money.f X1.money; rw [p_in]; rfl
def okAll (l : List Int) (m : Int) : Bool := (l.all X1.money) && (X1.money m && decide (l.length ≤ 100))
theorem amounts_l0 (l : List Int) (m : Int) (hl : l.length ≤ 1048576) (d : Nat) : ∀ i : Nat, i ≤ l.length → l.length - i = d → Ev (fun k => spec_l06Amounts.l0 k l m (i : Int)) ((l.drop i).all X1.money && (X1.money m && decide (l.length ≤ 100))) := by
  induction d with
  | zero =>
    intro i hi hd
    obtain rfl : i = l.length := by omega
    refine Ev.step (f := fun _ => some _) (fun k => ?_) (Ev.now _)
    simp only [spec_l06Amounts.l0]
    rw [if_neg (by omega), p_money, List.drop_length]
    simp only [Option.bind_some, List.all_nil, Bool.true_and]
    have e : decide ((l.length : Int) ≤ 100) = decide (l.length ≤ 100) := by rw [decide_eq_decide]; omega
    rw [e]
    cases X1.money m <;> simp
  | succ d ih =>
    intro i hi hd
    have hlt : i < l.length := by omega
    rw [drop_rd l hlt, List.all_cons]
    cases hm : X1.money (rd l (i : Int)) with
    | true =>
      rw [Bool.true_and]
      refine Ev.step (fun k => ?_) (ih (i + 1) (by omega) (by omega))
      simp only [spec_l06Amounts.l0]
      rw [if_pos (by omega), if_pos (by omega), p_money, hm, wnat (by omega)]
      rfl
    | false =>
      refine Ev.step (f := fun _ => some false) (fun k => ?_) (by rw [Bool.false_and, Bool.false_and]; exact Ev.now _)
      simp only [spec_l06Amounts.l0]
      rw [if_pos (by omega), if_pos (by omega), p_money, hm]
      rfl
theorem amounts (l : List Int) (m : Int) (hl : l.length ≤ 1048576) : Ev (fun k => spec_l06Amounts.f k l m) (okAll l m) := by
  unfold spec_l06Amounts.f okAll
  exact amounts_l0 l m hl l.length 0 (by omega) (by omega)
theorem areMoneys1 (m : Int) : impl_areMoneys.f [m] = some (X1.money m) := by
  unfold impl_areMoneys.f X1.areMoneysF
  simp
theorem areMoneys (l : List Int) (hl : l.length ≤ 1000000) : impl_areMoneys.f l = some (l.all X1.money) := by
  unfold impl_areMoneys.f X1.areMoneysF
  rw [if_pos hl]
theorem areClaims (l : List Int) (m : Int) : impl_areClaims.f l m = some (okAll l m) := by
  unfold impl_areClaims.f okAll
  rw [areMoneys1]
  simp only [Option.bind_some]
  cases X1.money m with
  | false => simp
  | true =>
    by_cases h : l.length ≤ 100
    · rw [if_pos rfl, if_pos (by omega), areMoneys l (by omega)]
      simp [h]
    · rw [if_pos rfl, if_neg (by omega)]
      simp [h]
theorem okAll_len {l : List Int} {m : Int} (h : okAll l m = true) : l.length ≤ 100 := by
  unfold okAll at h; simp only [Bool.and_eq_true, decide_eq_true_eq] at h; exact h.2.2
theorem okAll_m {l : List Int} {m : Int} (h : okAll l m = true) : 0 ≤ m ∧ m ≤ 1000000 := by
  unfold okAll X1.money at h; simp only [Bool.and_eq_true, decide_eq_true_eq] at h; exact h.2.1
theorem okAll_at {l : List Int} {m : Int} (h : okAll l m = true) {i : Nat} (hi : i < l.length) : 0 ≤ rd l (i : Int) ∧ rd l (i : Int) ≤ 1000000 := by
  unfold okAll at h; simp only [Bool.and_eq_true] at h
  have := List.all_eq_true.1 h.1 _ (rd_mem hi)
  unfold X1.money at this; simpa using this

def wsum (l : List Int) : Nat → Int
  | 0 => 0
  | i + 1 => wrap64 (wsum l i + rd l (i : Int))
theorem l06Sum_l0 (l : List Int) (hl : l.length ≤ 1048576) (d : Nat) : ∀ i : Nat, i ≤ l.length → l.length - i = d → Ev (fun k => spec_l06Sum.l0 k l (wsum l i) (i : Int)) (wsum l l.length) := by
  induction d with
  | zero =>
    intro i hi hd
    obtain rfl : i = l.length := by omega
    refine Ev.step (f := fun _ => some _) (fun k => ?_) (Ev.now _)
    simp only [spec_l06Sum.l0]
    rw [if_neg (by omega)]
  | succ d ih =>
    intro i hi hd
    refine Ev.step (fun k => ?_) (ih (i + 1) (by omega) (by omega))
    simp only [spec_l06Sum.l0]
    rw [if_pos (by omega), if_pos (by omega), wnat (by omega)]
    rfl
theorem l06Sum (l : List Int) (hl : l.length ≤ 1048576) : Ev (fun k => spec_l06Sum.f k l) (wsum l l.length) := by
  unfold spec_l06Sum.f
  exact l06Sum_l0 l hl l.length 0 (by omega) (by omega)
theorem total_l0 (l : List Int) (hl : l.length ≤ 1048576) (d : Nat) : ∀ i : Nat, i ≤ l.length → l.length - i = d → Ev (fun k => impl_total.l0 k (wsum l i) l (l.length : Int) (i : Int)) (wsum l l.length) := by
  induction d with
  | zero =>
    intro i hi hd
    obtain rfl : i = l.length := by omega
    refine Ev.step (f := fun _ => some _) (fun k => ?_) (Ev.now _)
    simp only [impl_total.l0]
    rw [if_neg (by omega)]
  | succ d ih =>
    intro i hi hd
    refine Ev.step (fun k => ?_) (ih (i + 1) (by omega) (by omega))
    simp only [impl_total.l0]
    rw [if_pos (by omega), if_pos (by omega), if_pos (by omega), wnat (by omega)]
    rfl
theorem total (l : List Int) (hl : l.length ≤ 1048576) : Ev (fun k => impl_total.f k l) (wsum l l.length) := by
  unfold impl_total.f
  exact total_l0 l hl l.length 0 (by omega) (by omega)
theorem min_s (a b : Int) : spec_l00Min.f a b = some (mn a b) := by
  unfold spec_l00Min.f mn
  by_cases h : a < b
  · rw [if_pos h, if_neg (by omega)]
  · rw [if_neg h]
    by_cases h2 : b < a
    · rw [if_pos h2]
    · rw [if_neg h2]; congr 1; omega
end Go.Proofs.Ytgdkimdikalmkaa.PFnShares
