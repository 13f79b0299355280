/- What the program and the reference say of lists of whole numbers comes to the same: the plain laws that All needs. No condition but the lists' lengths. -/
import Derived.Test.YtgdkimdikalmkaaPAllx1
import Derived.Test.YtgdkimdikalmkaaPAllx2
import Derived.Test.YtgdkimdikalmkaaX1
import Derived.Test.YtgdkimdikalmkaaK0
namespace Go.Proofs.Ytgdkimdikalmkaa.PAll
open Go.RowKit Go.Proofs.YtgdkimdikalmkaaW.PrintWords Go.Proofs.YtgdkimdikalmkaaW.PrintLast Go.Proofs.YtgdkimdikalmkaaW.PrintMore
set_option linter.unusedSimpArgs false
set_option linter.unusedVariables false

theorem ev_eq {α : Type} {r : α} {g : Nat → Option α} (h : ∀ k, g k = some r) : Ev g r := ⟨0, fun k _ => h k⟩
theorem ev_if {α : Type} {c : Prop} [Decidable c] {g f : Nat → Option α} {r : α} (h1 : c → Ev g r) (h2 : ¬ c → Ev f r) : Ev (fun k => if c then g k else f k) r := by
  by_cases h : c
  · simp only [h, if_true]; exact h1 h
  · simp only [h, if_false]; exact h2 h
theorem wnat {i : Nat} (h : i ≤ 1048577) : wrap64 ((i : Int) + 1) = ((i + 1 : Nat) : Int) := by unfold wrap64; omega
theorem rd_get {l : List Int} {i : Nat} (h : i < l.length) : rd l (i : Int) = l[i] := by simp [rd, List.getD_eq_getElem?_getD, List.getElem?_eq_getElem h]
theorem drop_rd (xs : List Int) {i : Nat} (h : i < xs.length) : xs.drop i = rd xs (i : Int) :: xs.drop (i + 1) := by
  rw [rd_get h]; exact List.drop_eq_getElem_cons h
theorem rd_mem {l : List Int} {i : Nat} (h : i < l.length) : rd l (i : Int) ∈ l := by rw [rd_get h]; exact List.getElem_mem h

/-! ### laws: lists copied, held against each other -/
theorem half_set (xs : List Int) {i : Nat} (h : i < xs.length) : (xs.take i ++ List.replicate (xs.length - i) 0).set i (rd xs (i : Int)) = xs.take (i + 1) ++ List.replicate (xs.length - (i + 1)) 0 := by
  have e : xs.length - i = (xs.length - (i + 1)) + 1 := by omega
  rw [List.set_append_right _ _ (by rw [List.length_take]; omega), List.length_take, Nat.min_eq_left (by omega), Nat.sub_self, e, List.replicate_succ, List.set_cons_zero, List.take_succ_eq_append_getElem h, List.append_assoc, List.singleton_append, rd_get h]
theorem toInt64S_l0 (xs : List Int) (hl : xs.length ≤ 1048576) (d : Nat) : ∀ i : Nat, i ≤ xs.length → xs.length - i = d → Ev (fun k => laws_toInt64S.l0 k xs (xs.take i ++ List.replicate (xs.length - i) 0) (i : Int)) xs := by
  induction d with
  | zero =>
    intro i hi hd
    obtain rfl : i = xs.length := by omega
    refine Ev.step (f := fun _ => some xs) (fun k => ?_) (Ev.now _)
    simp only [laws_toInt64S.l0]
    rw [if_neg (by omega), List.take_length, Nat.sub_self, List.replicate_zero, List.append_nil]
  | succ d ih =>
    intro i hi hd
    have hlt : i < xs.length := by omega
    refine Ev.step (fun k => ?_) (ih (i + 1) (by omega) (by omega))
    simp only [laws_toInt64S.l0]
    rw [if_pos (by omega), if_pos (by omega), if_pos (by rw [List.length_append, List.length_take, List.length_replicate]; omega), wnat (by omega), Int.toNat_natCast, half_set xs hlt]
theorem toInt64S (xs : List Int) (hl : xs.length ≤ 1048576) : Ev (fun k => laws_toInt64S.f k xs) xs := by
  have h := toInt64S_l0 xs hl xs.length 0 (by omega) (by omega)
  refine Ev.congr (fun k => ?_) h
  unfold laws_toInt64S.f
  rw [if_pos (by omega), if_pos (by omega)]
  simp
theorem eqInt64S_l0 (xs : List Int) (hl : xs.length ≤ 1048576) (d : Nat) : ∀ i : Nat, i ≤ xs.length → xs.length - i = d → Ev (fun k => laws_eqInt64S.l0 k xs xs (i : Int)) true := by
  induction d with
  | zero =>
    intro i hi hd
    refine Ev.step (f := fun _ => some true) (fun k => ?_) (Ev.now _)
    simp only [laws_eqInt64S.l0]
    rw [if_neg (by omega)]
  | succ d ih =>
    intro i hi hd
    refine Ev.step (fun k => ?_) (ih (i + 1) (by omega) (by omega))
    simp only [laws_eqInt64S.l0]
    rw [if_pos (by omega), if_pos (by omega), if_pos (by omega), wnat (by omega)]
    simp only [if_true]
theorem eqInt64S (xs : List Int) (hl : xs.length ≤ 1048576) : Ev (fun k => laws_eqInt64S.f k xs xs) true := by
  refine Ev.congr (fun k => ?_) (eqInt64S_l0 xs hl xs.length 0 (by omega) (by omega))
  unfold laws_eqInt64S.f
  rw [if_pos rfl]
  rfl

theorem tail1 (xs : List Int) (hl : xs.length ≤ 1048576) {f : Nat → Option Bool} (hf : Ev f true) : Ev (fun k => (laws_toInt64S.f k xs).bind fun t => (laws_eqInt64S.f k xs t).bind fun u => if u = true then f k else some false) true :=
  Ev.bind (toInt64S xs hl) (Ev.bind (eqInt64S xs hl) (Ev.congr (fun k => if_pos rfl) hf))

/-! ### amounts and sums -/
-- ONLY impl_within
-- END
theorem p_in (a b c : Int) : spec_l00In.f a b c = some (decide (b ≤ a) && decide (a ≤ c)) := by
  unfold spec_l00In.f; by_cases h : a ≥ b <;> simp [h]
theorem p_money (n : Int) : spec_l06Money.f n = some (X1.money n) := by
  unfold spec_l06Money.f X1.money; rw [p_in]; rfl
def okAll (l : List Int) (m : Int) : Bool := (l.all X1.money) && (X1.money m && decide (l.length ≤ 100))
theorem amounts_l0 (l : List Int) (m : Int) (hl : l.length ≤ 1048576) (d : Nat) : ∀ i : Nat, i ≤ l.length → l.length - i = d → Ev (fun k => spec_l06Amounts.l0 k l m (i : Int)) ((l.drop i).all X1.money && (X1.money m && decide (l.length ≤ 100))) := by
  induction d with
  | zero =>
    intro i hi hd
    obtain rfl : i = l.length := by omega
    refine Ev.step (f := fun _ => some _) (fun k => ?_) (Ev.now _)
    simp only [spec_l06Amounts.l0]
    rw [if_neg (by omega), p_money, List.drop_length]
    simp only [Option.bind_some, List.all_nil, Bool.true_and]
    have e : decide ((l.length : Int) ≤ 100) = decide (l.length ≤ 100) := by rw [decide_eq_decide]; omega
    rw [e]
    cases X1.money m <;> simp
  | succ d ih =>
    intro i hi hd
    have hlt : i < l.length := by omega
    rw [drop_rd l hlt, List.all_cons]
    cases hm : X1.money (rd l (i : Int)) with
    | true =>
      rw [Bool.true_and]
      refine Ev.step (fun k => ?_) (ih (i + 1) (by omega) (by omega))
      simp only [spec_l06Amounts.l0]
      rw [if_pos (by omega), if_pos (by omega), p_money, hm, wnat (by omega)]
      rfl
    | false =>
      refine Ev.step (f := fun _ => some false) (fun k => ?_) (by rw [Bool.false_and, Bool.false_and]; exact Ev.now _)
      simp only [spec_l06Amounts.l0]
      rw [if_pos (by omega), if_pos (by omega), p_money, hm]
      rfl
theorem amounts (l : List Int) (m : Int) (hl : l.length ≤ 1048576) : Ev (fun k => spec_l06Amounts.f k l m) (okAll l m) := by
  unfold spec_l06Amounts.f okAll
  exact amounts_l0 l m hl l.length 0 (by omega) (by omega)
theorem areMoneys1 (m : Int) : impl_areMoneys.f [m] = some (X1.money m) := by
  unfold impl_areMoneys.f X1.areMoneysF
  simp
theorem areMoneys (l : List Int) (hl : l.length ≤ 1000000) : impl_areMoneys.f l = some (l.all X1.money) := by
  unfold impl_areMoneys.f X1.areMoneysF
  rw [if_pos hl]
-- ONLY impl_areClaims
-- END
theorem okAll_len {l : List Int} {m : Int} (h : okAll l m = true) : l.length ≤ 100 := by
  unfold okAll at h; simp only [Bool.and_eq_true, decide_eq_true_eq] at h; exact h.2.2
theorem okAll_m {l : List Int} {m : Int} (h : okAll l m = true) : 0 ≤ m ∧ m ≤ 1000000 := by
  unfold okAll X1.money at h; simp only [Bool.and_eq_true, decide_eq_true_eq] at h; exact h.2.1
theorem okAll_at {l : List Int} {m : Int} (h : okAll l m = true) {i : Nat} (hi : i < l.length) : 0 ≤ rd l (i : Int) ∧ rd l (i : Int) ≤ 1000000 := by
  unfold okAll at h; simp only [Bool.and_eq_true] at h
  have := List.all_eq_true.1 h.1 _ (rd_mem hi)
  unfold X1.money at this; simpa using this

def wsum (l : List Int) : Nat → Int
  | 0 => 0
  | i + 1 => wrap64 (wsum l i + rd l (i : Int))
theorem l06Sum_l0 (l : List Int) (hl : l.length ≤ 1048576) (d : Nat) : ∀ i : Nat, i ≤ l.length → l.length - i = d → Ev (fun k => spec_l06Sum.l0 k l (wsum l i) (i : Int)) (wsum l l.length) := by
  induction d with
  | zero =>
    intro i hi hd
    obtain rfl : i = l.length := by omega
    refine Ev.step (f := fun _ => some _) (fun k => ?_) (Ev.now _)
    simp only [spec_l06Sum.l0]
    rw [if_neg (by omega)]
  | succ d ih =>
    intro i hi hd
    refine Ev.step (fun k => ?_) (ih (i + 1) (by omega) (by omega))
    simp only [spec_l06Sum.l0]
    rw [if_pos (by omega), if_pos (by omega), wnat (by omega)]
    rfl
theorem l06Sum (l : List Int) (hl : l.length ≤ 1048576) : Ev (fun k => spec_l06Sum.f k l) (wsum l l.length) := by
  unfold spec_l06Sum.f
  exact l06Sum_l0 l hl l.length 0 (by omega) (by omega)
theorem total_l0 (l : List Int) (hl : l.length ≤ 1048576) (d : Nat) : ∀ i : Nat, i ≤ l.length → l.length - i = d → Ev (fun k => impl_total.l0 k (wsum l i) l (l.length : Int) (i : Int)) (wsum l l.length) := by
  induction d with
  | zero =>
    intro i hi hd
    obtain rfl : i = l.length := by omega
    refine Ev.step (f := fun _ => some _) (fun k => ?_) (Ev.now _)
    simp only [impl_total.l0]
    rw [if_neg (by omega)]
  | succ d ih =>
    intro i hi hd
    refine Ev.step (fun k => ?_) (ih (i + 1) (by omega) (by omega))
    simp only [impl_total.l0]
    rw [if_pos (by omega), if_pos (by omega), if_pos (by omega), wnat (by omega)]
    rfl
theorem total (l : List Int) (hl : l.length ≤ 1048576) : Ev (fun k => impl_total.f k l) (wsum l l.length) := by
  unfold impl_total.f
  exact total_l0 l hl l.length 0 (by omega) (by omega)
-- ONLY spec_l00Min
-- END
-- ONLY laws_markInt64S laws_heldInt64S
def mks (n : Nat) : List Int := (List.range n).map fun (j : Nat) => (1 : Int) + (j : Int)
theorem mks_len (n : Nat) : (mks n).length = n := by simp [mks]
theorem mks_succ (n : Nat) : mks (n + 1) = mks n ++ [1 + (n : Int)] := by simp [mks, List.range_succ]
theorem mks_rd {n i : Nat} (h : i < n) : rd (mks n) (i : Int) = 1 + (i : Int) := by
  rw [rd_get (by rw [mks_len]; exact h)]
  simp [mks]
theorem w1nat {i : Nat} (h : i ≤ 1048577) : wrap64 (1 + (i : Int) + 1) = 1 + ((i + 1 : Nat) : Int) := by unfold wrap64; omega
theorem mark_l0 (xs : List Int) (hl : xs.length ≤ 1048576) (d : Nat) : ∀ i : Nat, i ≤ xs.length → xs.length - i = d → Ev (fun k => laws_markInt64S.l0 k (mks i ++ xs.drop i) (1 + (i : Int)) (i : Int)) (1 + (xs.length : Int), mks xs.length) := by
  induction d with
  | zero =>
    intro i hi hd
    obtain rfl : i = xs.length := by omega
    refine Ev.step (f := fun _ => some _) (fun k => ?_) (Ev.now _)
    simp only [laws_markInt64S.l0]
    rw [if_neg (by rw [List.length_append, mks_len, List.length_drop]; omega), List.drop_length, List.append_nil]
  | succ d ih =>
    intro i hi hd
    have hlt : i < xs.length := by omega
    refine Ev.step (fun k => ?_) (ih (i + 1) (by omega) (by omega))
    simp only [laws_markInt64S.l0]
    rw [if_pos (by rw [List.length_append, mks_len, List.length_drop]; omega), if_pos (by omega), wnat (by omega), w1nat (by omega), Int.toNat_natCast, drop_rd xs hlt, List.set_append_right _ _ (by rw [mks_len]; omega), mks_len, Nat.sub_self, List.set_cons_zero, mks_succ, List.append_assoc, List.singleton_append]
theorem markAll (xs : List Int) (hl : xs.length ≤ 1048576) : Ev (fun k => laws_markInt64S.f k xs 1) (1 + (xs.length : Int), mks xs.length) := by
  have h := mark_l0 xs hl xs.length 0 (by omega) (by omega)
  have e0 : mks 0 = [] := rfl
  rw [e0] at h
  exact h
theorem held_l0 (n : Nat) (hl : n ≤ 1048576) (d : Nat) : ∀ i : Nat, i ≤ n → n - i = d → Ev (fun k => laws_heldInt64S.l0 k (mks n) (1 + (i : Int)) (i : Int)) (1 + (n : Int)) := by
  induction d with
  | zero =>
    intro i hi hd
    obtain rfl : i = n := by omega
    refine Ev.step (f := fun _ => some _) (fun k => ?_) (Ev.now _)
    simp only [laws_heldInt64S.l0]
    rw [if_neg (by rw [mks_len]; omega)]
  | succ d ih =>
    intro i hi hd
    refine Ev.step (fun k => ?_) (ih (i + 1) (by omega) (by omega))
    simp only [laws_heldInt64S.l0]
    rw [if_pos (by rw [mks_len]; omega), if_pos (by omega), if_pos (mks_rd (by omega)), wnat (by omega), w1nat (by omega)]
theorem held (n : Nat) (hl : n ≤ 1048576) : Ev (fun k => laws_heldInt64S.f k (mks n) 1) (1 + (n : Int)) :=
  held_l0 n hl n 0 (by omega) (by omega)
theorem held_if {n : Nat} (hl : n ≤ 1048576) {f : Nat → Option Bool} (hf : Ev f true) : Ev (fun k => (laws_heldInt64S.f k (mks n) 1).bind fun t => if t < 0 then some false else if t = 1 + (n : Int) then f k else some false) true :=
  Ev.bind (held n hl) (Ev.congr (fun k => by rw [if_neg (by omega), if_pos rfl]) hf)
-- END
end Go.Proofs.Ytgdkimdikalmkaa.PAll
