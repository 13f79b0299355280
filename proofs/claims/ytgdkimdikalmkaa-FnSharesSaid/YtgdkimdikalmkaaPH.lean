/- Money shared in the proportion of amounts: the greatest rests first. No program. No condition but those that each theorem names. -/
import Derived.Test.YtgdkimdikalmkaaPS
namespace Go.Proofs.Ytgdkimdikalmkaa.SH
open Go.Proofs.Ytgdkimdikalmkaa
set_option linter.unusedVariables false

/-- The first of the greatest among 0 .. k. -/
def sel (R : Nat → Int) : Nat → Nat
  | 0 => 0
  | k + 1 => if R (k + 1) > R (sel R k) then k + 1 else sel R k
theorem sel_le (R : Nat → Int) : ∀ k, sel R k ≤ k
  | 0 => Nat.le_refl _
  | k + 1 => by
    have := sel_le R k
    simp only [sel]
    split <;> omega
theorem sel_spec (R : Nat → Int) : ∀ k j, j ≤ k → R j ≤ R (sel R k) ∧ (j < sel R k → R j < R (sel R k))
  | 0, j, h => by
    obtain rfl : j = 0 := by omega
    simp [sel]
  | k + 1, j, h => by
    have h1 := sel_le R k
    by_cases hj : j ≤ k
    · have ih := sel_spec R k j hj
      simp only [sel]
      split
      · rename_i hc
        exact ⟨by omega, fun _ => by omega⟩
      · exact ih
    · obtain rfl : j = k + 1 := by omega
      simp only [sel]
      split
      · exact ⟨Int.le_refl _, fun h => by omega⟩
      · exact ⟨by omega, fun h => by omega⟩
theorem sel_eq {R : Nat → Int} {k x : Nat} (hx : x ≤ k) (h : ∀ j, j ≤ k → j ≠ x → R j < R x ∨ (R j = R x ∧ x < j)) : sel R k = x := by
  have h1 := sel_le R k
  have h2 := sel_spec R k x hx
  by_cases e : sel R k = x
  · exact e
  · rcases h (sel R k) h1 e with h3 | ⟨h3, h4⟩
    · omega
    · have := h2.2 h4
      omega
def up (f : Nat → Int) (x : Nat) (v : Int) : Nat → Int := fun i => if i = x then v else f i
theorem up_same (f : Nat → Int) (x : Nat) (v : Int) : up f x v x = v := by simp [up]
theorem up_other (f : Nat → Int) {x i : Nat} (v : Int) (h : i ≠ x) : up f x v i = f i := by simp [up, h]
def run (n : Nat) (s : (Nat → Int) × (Nat → Int)) : Nat → (Nat → Int) × (Nat → Int)
  | 0 => s
  | t + 1 => (up (run n s t).1 (sel (run n s t).2 (n - 1)) ((run n s t).1 (sel (run n s t).2 (n - 1)) + 1), up (run n s t).2 (sel (run n s t).2 (n - 1)) (-1))
/-- The order in which they are chosen is the sorted one. -/
theorem run_sorted {r q : Nat → Int} {D : Nat → Nat} {n : Nat} (hD : SM.Sim D id 0 n) (hS : SM.Srt r D 0 n) (hr : ∀ i, i < n → 0 ≤ r i) : ∀ t, t ≤ n → (∀ s, s < t → (run n (q, r) t).2 (D s) = -1) ∧ (∀ i, (∀ s, s < t → D s ≠ i) → (run n (q, r) t).2 i = r i) ∧ (t < n → sel (run n (q, r) t).2 (n - 1) = D t) := by
  obtain ⟨ho, hi, hin⟩ := hD.onto
  have key : ∀ t, t < n → (∀ s, s < t → (run n (q, r) t).2 (D s) = -1) → (∀ i, (∀ s, s < t → D s ≠ i) → (run n (q, r) t).2 i = r i) → sel (run n (q, r) t).2 (n - 1) = D t := fun t ht h1 h2 => by
    have hx : (run n (q, r) t).2 (D t) = r (D t) := h2 _ (fun s hs e => by have := hi _ _ e; omega)
    refine sel_eq (by have := hin t ht; omega) (fun j hj hne => ?_)
    obtain ⟨s, hs, rfl⟩ := ho j (by omega)
    rw [hx]
    rcases Nat.lt_trichotomy s t with h | h | h
    · rw [h1 s h]
      have := hr _ (hin t ht)
      exact .inl (by omega)
    · exact absurd (by rw [h]) hne
    · rw [h2 _ (fun p hp e => by have := hi _ _ e; omega)]
      have := hS t s (Nat.zero_le _) h hs
      unfold SM.bef at this
      omega
  intro t
  induction t with
  | zero => exact fun _ => ⟨fun s hs => absurd hs (Nat.not_lt_zero _), fun i _ => rfl, fun h => key 0 h (fun s hs => absurd hs (Nat.not_lt_zero _)) (fun i _ => rfl)⟩
  | succ t ih =>
    intro ht
    obtain ⟨h1, h2, h3⟩ := ih (by omega)
    have h3 := h3 (by omega)
    have k1 : ∀ s, s < t + 1 → (run n (q, r) (t + 1)).2 (D s) = -1 := fun s hs => by
      show up _ _ _ _ = _
      rw [h3]
      by_cases e : s = t
      · rw [e, up_same]
      · rw [up_other _ _ (fun e2 => e (hi _ _ e2))]
        exact h1 s (by omega)
    have k2 : ∀ i, (∀ s, s < t + 1 → D s ≠ i) → (run n (q, r) (t + 1)).2 i = r i := fun i hni => by
      show up _ _ _ _ = _
      rw [h3, up_other _ _ (fun e => hni t (by omega) e.symm)]
      exact h2 i (fun s hs => hni s (by omega))
    exact ⟨k1, k2, fun h => key (t + 1) h k1 k2⟩
theorem run_next {r q : Nat → Int} {D : Nat → Nat} {n t : Nat} (hD : SM.Sim D id 0 n) (hS : SM.Srt r D 0 n) (hr : ∀ i, i < n → 0 ≤ r i) (ht : t < n) : (run n (q, r) (t + 1)).1 = up (run n (q, r) t).1 (D t) ((run n (q, r) t).1 (D t) + 1) := by
  show up _ _ _ = _
  rw [(run_sorted hD hS hr t (by omega)).2.2 ht]

/-! ### Sums -/
def isum (f : Nat → Int) : Nat → Int
  | 0 => 0
  | n + 1 => isum f n + f n
theorem isum_add (f g : Nat → Int) : ∀ n, isum (fun i => f i + g i) n = isum f n + isum g n
  | 0 => rfl
  | n + 1 => by simp only [isum]; rw [isum_add f g n]; omega
theorem isum_mul (f : Nat → Int) (c : Int) : ∀ n, isum (fun i => c * f i) n = c * isum f n
  | 0 => by simp [isum]
  | n + 1 => by simp only [isum]; rw [isum_mul f c n, Int.mul_add]
theorem isum_congr {f g : Nat → Int} : ∀ n, (∀ i, i < n → f i = g i) → isum f n = isum g n
  | 0, _ => rfl
  | n + 1, h => by simp only [isum]; rw [isum_congr n (fun i hi => h i (by omega)), h n (by omega)]
theorem isum_le {f g : Nat → Int} : ∀ n, (∀ i, i < n → f i ≤ g i) → isum f n ≤ isum g n
  | 0, _ => Int.le_refl _
  | n + 1, h => by
    have h1 := isum_le n (fun i hi => h i (by omega))
    have h2 := h n (by omega)
    simp only [isum]
    omega
theorem isum_const (c : Int) : ∀ n : Nat, isum (fun _ => c) n = (n : Int) * c
  | 0 => by simp [isum]
  | n + 1 => by simp only [isum]; rw [isum_const c n, Int.natCast_add, Int.add_mul]; simp
/-- What is left, when each has the whole part of a share: less than one each. -/
theorem left_bound {a : Nat → Int} {m S : Int} {n : Nat} (hS : 0 < S) (hs : isum a n = S) (hm : 0 ≤ m) (ha : ∀ i, i < n → 0 ≤ a i) :
    0 ≤ m - isum (fun i => m * a i / S) n ∧ m - isum (fun i => m * a i / S) n ≤ n ∧ S * (m - isum (fun i => m * a i / S) n) = isum (fun i => m * a i % S) n := by
  have h1 : isum (fun i => m * a i) n = isum (fun i => S * (m * a i / S) + m * a i % S) n := isum_congr n (fun i _ => (Int.mul_ediv_add_emod _ _).symm)
  rw [isum_mul, hs, isum_add, isum_mul] at h1
  have h2 : isum (fun _ => (0 : Int)) n ≤ isum (fun i => m * a i % S) n := isum_le n (fun i _ => Int.emod_nonneg _ (by omega))
  have h3 : isum (fun i => m * a i % S) n ≤ isum (fun _ => S) n := isum_le n (fun i _ => Int.le_of_lt (Int.emod_lt_of_pos _ hS))
  rw [isum_const] at h2 h3
  have e : S * (m - isum (fun i => m * a i / S) n) = isum (fun i => m * a i % S) n := by
    rw [Int.mul_sub, Int.mul_comm S m]
    omega
  refine ⟨?_, ?_, e⟩
  · rw [← e] at h2
    simp only [Int.mul_zero] at h2
    exact Int.nonneg_of_mul_nonneg_right h2 hS
  · rw [← e, Int.mul_comm (n : Int) S] at h3
    exact Int.le_of_mul_le_mul_left h3 hS
end Go.Proofs.Ytgdkimdikalmkaa.SH
