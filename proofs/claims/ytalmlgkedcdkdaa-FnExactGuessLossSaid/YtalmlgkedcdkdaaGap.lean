/- Minutes in which something is seen, and the gaps between them, as plain lists: no program. No condition but those that each theorem names. -/
import Derived.Test.YtalmlgkedcdkdaaWWords
namespace Go.Proofs.Ytalmlgkedcdkdaa.Gap
open Go.RowKit Go.Proofs.YtalmlgkedcdkdaaW.PrintWords
set_option linter.unusedSimpArgs false
set_option linter.unusedVariables false

/-- The numbers below n of which s holds, ascending. -/
def lst (s : Nat → Bool) : Nat → List Int
  | 0 => []
  | k + 1 => if s k = true then lst s k ++ [(k : Int)] else lst s k
theorem lst_yes {s : Nat → Bool} {k : Nat} (h : s k = true) : lst s (k + 1) = lst s k ++ [(k : Int)] := by simp [lst, h]
theorem lst_no {s : Nat → Bool} {k : Nat} (h : s k = false) : lst s (k + 1) = lst s k := by simp [lst, h]
theorem lst_len (s : Nat → Bool) : ∀ n, (lst s n).length ≤ n
  | 0 => by simp [lst]
  | n + 1 => by
    have := lst_len s n
    cases h : s n
    · rw [lst_no h]; omega
    · rw [lst_yes h, List.length_append]; simp; omega
theorem lst_mono (s : Nat → Bool) {a b : Nat} (h : a ≤ b) : (lst s a).length ≤ (lst s b).length := by
  induction b with
  | zero => obtain rfl : a = 0 := by omega
            exact Nat.le_refl _
  | succ b ih =>
    by_cases e : a = b + 1
    · rw [e]; exact Nat.le_refl _
    · have := ih (by omega)
      cases hs : s b
      · rw [lst_no hs]; exact this
      · rw [lst_yes hs, List.length_append]; omega
theorem lst_gap {s : Nat → Bool} {a b : Nat} (h : (lst s a).length = (lst s b).length) {x : Nat} (h1 : a ≤ x) (h2 : x < b) : s x = false := by
  cases hs : s x
  · rfl
  · have e := lst_yes hs
    have e1 := lst_mono s h1
    have e2 := lst_mono s (show x + 1 ≤ b by omega)
    rw [e, List.length_append] at e2
    simp at e2
    omega
theorem rd_l {l m : List Int} {j : Nat} (h : j < l.length) : rd (l ++ m) (j : Int) = rd l (j : Int) := by
  simp only [rd, Int.toNat_natCast]
  rw [List.getD_eq_getElem?_getD, List.getD_eq_getElem?_getD, List.getElem?_append_left h]
theorem rd_r (l : List Int) (x : Int) : rd (l ++ [x]) (l.length : Int) = x := by
  simp only [rd, Int.toNat_natCast]
  rw [List.getD_eq_getElem?_getD, List.getElem?_append_right (Nat.le_refl _)]
  simp
theorem lst_rd (s : Nat → Bool) {k : Nat} (hs : s k = true) : ∀ n, k < n → rd (lst s n) ((lst s k).length : Int) = (k : Int) ∧ (lst s k).length < (lst s n).length
  | 0, h => by omega
  | n + 1, h => by
    by_cases e : k = n
    · subst e
      rw [lst_yes hs]
      exact ⟨rd_r _ _, by simp⟩
    · obtain ⟨h1, h2⟩ := lst_rd s hs n (by omega)
      cases hn : s n
      · rw [lst_no hn]; exact ⟨h1, h2⟩
      · rw [lst_yes hn, rd_l h2]
        exact ⟨h1, by simp; omega⟩
theorem lst_at (s : Nat → Bool) : ∀ n j, j < (lst s n).length → ∃ m, m < n ∧ s m = true ∧ (lst s m).length = j
  | 0, j, h => by simp [lst] at h
  | n + 1, j, h => by
    cases hn : s n
    · rw [lst_no hn] at h
      obtain ⟨m, a, b, c⟩ := lst_at s n j h
      exact ⟨m, by omega, b, c⟩
    · rw [lst_yes hn] at h
      by_cases e : j < (lst s n).length
      · obtain ⟨m, a, b, c⟩ := lst_at s n j e
        exact ⟨m, by omega, b, c⟩
      · simp at h
        exact ⟨n, by omega, hn, by omega⟩
theorem lst_some (s : Nat → Bool) (n : Nat) : decide (0 < (lst s n).length) = (List.range n).any s := by
  induction n with
  | zero => rfl
  | succ n ih =>
    rw [List.range_succ, List.any_append, ← ih]
    cases hs : s n
    · rw [lst_no hs]; simp [hs]
    · rw [lst_yes hs]; simp [hs]

/-- How long it is from k to the next one, round the end. -/
def next (s : Nat → Bool) (n k : Nat) : Int := if (lst s k).length + 1 < (lst s n).length then rd (lst s n) (((lst s k).length + 1 : Nat) : Int) - (k : Int) else (n : Int) + rd (lst s n) 0 - (k : Int)
theorem next_least {s : Nat → Bool} {n k : Nat} (hk : k < n) (hs : s k = true) : ∃ D : Nat, next s n k = (D : Int) ∧ 1 ≤ D ∧ D ≤ n ∧ s ((k + D) % n) = true ∧ ∀ d, 1 ≤ d → d < D → s ((k + d) % n) = false := by
  obtain ⟨h1, h2⟩ := lst_rd s hs n hk
  have hy := lst_yes hs
  unfold next
  split
  case isTrue h =>
    obtain ⟨m, m1, m2, m3⟩ := lst_at s n _ h
    obtain ⟨r1, r2⟩ := lst_rd s m2 n m1
    rw [m3] at r1
    have hl : (lst s (k + 1)).length = (lst s m).length := by rw [hy, m3, List.length_append]; rfl
    have hkm : k < m := by
      rcases Nat.lt_or_ge k m with h | h
      · exact h
      · have := lst_mono s h; omega
    refine ⟨m - k, by rw [r1]; omega, by omega, by omega, ?_, fun d d1 d2 => ?_⟩
    · rw [show k + (m - k) = m by omega, Nat.mod_eq_of_lt m1]; exact m2
    · rw [Nat.mod_eq_of_lt (by omega)]
      exact lst_gap hl (by omega) (by omega)
  case isFalse h =>
    obtain ⟨m, m1, m2, m3⟩ := lst_at s n 0 (by omega)
    obtain ⟨r1, r2⟩ := lst_rd s m2 n m1
    rw [m3] at r1
    have r1' : rd (lst s n) 0 = (m : Int) := r1
    have hl : (lst s (k + 1)).length = (lst s n).length := by rw [hy, List.length_append]; simp; omega
    have hmk : m ≤ k := by
      rcases Nat.lt_or_ge k m with h' | h'
      · have := lst_gap (a := 0) (b := m) (by rw [m3]; rfl) (x := k) (by omega) h'
        rw [hs] at this; cases this
      · exact h'
    refine ⟨n + m - k, by rw [r1']; omega, by omega, by omega, ?_, fun d d1 d2 => ?_⟩
    · rw [show k + (n + m - k) = m + n by omega, Nat.add_mod_right, Nat.mod_eq_of_lt m1]; exact m2
    · by_cases e : k + d < n
      · rw [Nat.mod_eq_of_lt e]
        exact lst_gap hl (by omega) e
      · rw [show k + d = (k + d - n) + n by omega, Nat.add_mod_right, Nat.mod_eq_of_lt (by omega)]
        exact lst_gap (a := 0) (b := m) (by rw [m3]; rfl) (by omega) (by omega)

/-- The greatest of what follows those below k. -/
def gapTo (s : Nat → Bool) (n : Nat) : Nat → Int
  | 0 => 0
  | k + 1 => if s k = true then (if gapTo s n k < next s n k then next s n k else gapTo s n k) else gapTo s n k
theorem gapTo_bd (s : Nat → Bool) (n : Nat) : ∀ k, k ≤ n → 0 ≤ gapTo s n k ∧ gapTo s n k ≤ (n : Int)
  | 0, _ => by simp [gapTo]
  | k + 1, h => by
    obtain ⟨a, b⟩ := gapTo_bd s n k (by omega)
    simp only [gapTo]
    split
    case isTrue hs =>
      obtain ⟨D, e, d1, d2, _⟩ := next_least (n := n) (show k < n by omega) hs
      split <;> omega
    case isFalse => exact ⟨a, b⟩
/-- No gap: nothing is seen. -/
theorem gapTo_zero (s : Nat → Bool) (n : Nat) : ∀ k, k ≤ n → (gapTo s n k = 0 ↔ (lst s k).length = 0)
  | 0, _ => by simp [gapTo, lst]
  | k + 1, h => by
    have ih := gapTo_zero s n k (by omega)
    have hb := gapTo_bd s n k (by omega)
    cases hs : s k
    · rw [lst_no hs]
      simp only [gapTo, hs]
      exact ih
    · rw [lst_yes hs]
      obtain ⟨D, e, d1, d2, _⟩ := next_least (n := n) (show k < n by omega) hs
      simp only [gapTo, hs, if_true, List.length_append]
      constructor
      · intro h'
        split at h' <;> omega
      · intro h'
        simp at h'

end Go.Proofs.Ytalmlgkedcdkdaa.Gap
