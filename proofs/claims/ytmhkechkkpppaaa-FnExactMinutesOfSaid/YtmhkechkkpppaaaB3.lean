/- The worst gap of some cells: the plain function, from two beginnings. No program. No condition but bounds of the numbers. -/
import Derived.Test.YtmhkechkkpppaaaB2
import Derived.Test.YtmhkechkkpppaaaBits
namespace Go.Proofs.Ytmhkechkkpppaaa
open Go.RowKit Go.Proofs.YtmhkechkkpppaaaW.PrintWords Go.Proofs.YtmhkechkkpppaaaW.PrintLast Go.Proofs.YtmhkechkkpppaaaW.PrintMore Go.Proofs.Ytmhkechkkpppaaa.PAll
set_option linter.unusedSimpArgs false
set_option linter.unusedVariables false

section
variable (F : Fld) (b : List Int) (s : Int) (wt : Nat) (U : List Int)
def wstep (k : Nat) (x : Int × Int) : Option (Int × Int) := if (F.has (k : Int) && hasN U k) = true then (if gapB b s (k : Int) wt = 0 then none else if x.2 < gapB b s (k : Int) wt then some ((k : Int), gapB b s (k : Int) wt) else some x) else some x
def wst (z : Int) : Nat → Option (Int × Int)
  | 0 => some (z, 0)
  | k + 1 => (wst z k).bind (wstep F b s wt U k)
/-- The worst cell, its gap, and whether there is one: as the reference and as the program say it. -/
def worS : Int × Int × Bool := match wst F b s wt U (-1) 100 with
  | none => (0, 0, false)
  | some x => (x.1, x.2, decide (0 ≤ x.1))
def worI : Int × Int × Bool := match wst F b s wt U 0 100 with
  | none => (0, 0, false)
  | some x => (x.1, x.2, decide (0 < x.2))
end
section
variable {F : Fld} {b : List Int} {s : Int} {wt : Nat} {U : List Int}
theorem wst_none {z : Int} {k : Nat} (h : wst F b s wt U z k = none) : ∀ m, k ≤ m → wst F b s wt U z m = none := by
  intro m
  induction m with
  | zero =>
    intro hk
    obtain rfl : k = 0 := by omega
    exact h
  | succ m ih =>
    intro hk
    rcases Nat.lt_or_ge m k with h1 | h1
    · obtain rfl : k = m + 1 := by omega
      exact h
    · simp only [wst]
      rw [ih h1]
      rfl
/-- Both beginnings give the same once a gap is there. -/
theorem wst_rel (h0 : ∀ k : Nat, k < 100 → F.has (k : Int) = true → 0 ≤ gapB b s (k : Int) wt) : ∀ k, k ≤ 100 → (wst F b s wt U (-1) k = none ∧ wst F b s wt U 0 k = none) ∨ ∃ x y, wst F b s wt U (-1) k = some x ∧ wst F b s wt U 0 k = some y ∧ x.2 = y.2 ∧ 0 ≤ x.2 ∧ ((x.2 = 0 ∧ x.1 = -1 ∧ y.1 = 0) ∨ (0 < x.2 ∧ x.1 = y.1 ∧ 0 ≤ x.1))
  | 0, _ => .inr ⟨(-1, 0), (0, 0), rfl, rfl, rfl, Int.le_refl _, .inl ⟨rfl, rfl, rfl⟩⟩
  | k + 1, hk => by
    rcases wst_rel h0 k (by omega) with ⟨h1, h2⟩ | ⟨x, y, h1, h2, h3, h4, h5⟩
    · exact .inl ⟨wst_none h1 _ (by omega), wst_none h2 _ (by omega)⟩
    · simp only [wst]
      rw [h1, h2, Option.bind_some, Option.bind_some]
      unfold wstep
      by_cases hp : (F.has (k : Int) && hasN U k) = true
      · rw [if_pos hp, if_pos hp]
        by_cases hg : gapB b s (k : Int) wt = 0
        · rw [if_pos hg, if_pos hg]
          exact .inl ⟨rfl, rfl⟩
        · rw [if_neg hg, if_neg hg]
          have hgb := h0 k (by omega) (by rw [Bool.and_eq_true] at hp; exact hp.1)
          generalize gapB b s (k : Int) wt = g at *
          by_cases hl : x.2 < g
          · rw [if_pos hl, if_pos (by rw [← h3]; exact hl)]
            exact .inr ⟨_, _, rfl, rfl, rfl, by simp only; omega, .inr ⟨by simp only; omega, rfl, Int.natCast_nonneg _⟩⟩
          · rw [if_neg hl, if_neg (by rw [← h3]; exact hl)]
            exact .inr ⟨x, y, rfl, rfl, h3, h4, h5⟩
      · rw [if_neg hp, if_neg hp]
        exact .inr ⟨x, y, rfl, rfl, h3, h4, h5⟩
theorem wor_same (h0 : ∀ k : Nat, k < 100 → F.has (k : Int) = true → 0 ≤ gapB b s (k : Int) wt) : (worS F b s wt U).2.2 = (worI F b s wt U).2.2 ∧ ((worI F b s wt U).2.2 = true → worS F b s wt U = worI F b s wt U) := by
  unfold worS worI
  rcases wst_rel (U := U) h0 100 (Nat.le_refl _) with ⟨h1, h2⟩ | ⟨x, y, h1, h2, h3, h4, h5⟩
  · rw [h1, h2]
    exact ⟨rfl, fun _ => rfl⟩
  · rw [h1, h2]
    simp only
    rcases h5 with ⟨a, c, d⟩ | ⟨a, c, d⟩
    · rw [decide_eq_false (by omega : ¬ 0 ≤ x.1), decide_eq_false (by omega : ¬ 0 < y.2)]
      exact ⟨rfl, fun h => by cases h⟩
    · rw [decide_eq_true d, decide_eq_true (by omega : 0 < y.2), c, h3]
      exact ⟨rfl, fun _ => rfl⟩
end
end Go.Proofs.Ytmhkechkkpppaaa
