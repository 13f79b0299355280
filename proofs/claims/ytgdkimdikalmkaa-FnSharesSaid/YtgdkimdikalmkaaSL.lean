/- Money shared in the proportion of amounts: the shares sum to the money, none is off by one or more, and who has more gets no less. No program. No condition but those that each theorem names. -/
import Derived.Test.YtgdkimdikalmkaaSR
namespace Go.Proofs.Ytgdkimdikalmkaa.SH
open Go.Proofs.Ytgdkimdikalmkaa
set_option linter.unusedVariables false

theorem isum_up (f : Nat → Int) (x : Nat) (v : Int) : ∀ n, x < n → isum (up f x v) n = isum f n - f x + v
  | 0, h => absurd h (Nat.not_lt_zero _)
  | n + 1, h => by
    simp only [isum]
    by_cases e : x = n
    · subst e
      rw [up_same, isum_congr (f := up f x v) (g := f) x (fun i hi => up_other f v (by omega))]
      omega
    · rw [isum_up f x v n (by omega), up_other f v (fun h => e h.symm)]
      omega
theorem isum_pos {f : Nat → Int} : ∀ n, 0 < isum f n → ∃ i, i < n ∧ 0 < f i
  | 0, h => absurd h (Int.lt_irrefl _)
  | n + 1, h => by
    simp only [isum] at h
    by_cases e : 0 < f n
    · exact ⟨n, by omega, e⟩
    · obtain ⟨i, hi, hf⟩ := isum_pos (f := f) n (by omega)
      exact ⟨i, by omega, hf⟩
def pos0 (x : Int) : Int := if x < 0 then 0 else x
structure Picked (n : Nat) (q r : Nat → Int) (S t0 : Int) (t : Nat) (Q R : Nat → Int) : Prop where
  each : ∀ i, i < n → (R i = r i ∧ Q i = q i) ∨ (R i = -1 ∧ Q i = q i + 1 ∧ 0 < r i)
  sum : isum Q n = isum q n + t
  mono : ∀ i k, i < n → k < n → R k = -1 → r k < r i → R i = -1
  rest : S * (t0 - t) ≤ isum (fun i => pos0 (R i)) n
theorem pick_num {S t0 t P x : Int} (h : S * (t0 - t) ≤ P) (hx : x < S) : S * (t0 - (t + 1)) ≤ P - x + 0 := by
  have e : S * (t0 - (t + 1)) = S * (t0 - t) - S := by
    rw [show t0 - (t + 1) = (t0 - t) - 1 by omega, Int.mul_sub, Int.mul_one]
  omega
theorem pick_pos {S t0 t P : Int} (hS : 0 < S) (ht : t + 1 ≤ t0) (h : S * (t0 - t) ≤ P) : 0 < P := by
  have := Int.mul_pos hS (show 0 < t0 - t by omega)
  omega
theorem picked {n : Nat} {q r : Nat → Int} {S t0 : Int} (hn : 0 < n) (hS : 0 < S) (hr : ∀ i, i < n → 0 ≤ r i ∧ r i < S) (hs : isum r n = S * t0) : ∀ t : Nat, (t : Int) ≤ t0 → Picked n q r S t0 t (run n (q, r) t).1 (run n (q, r) t).2
  | 0, _ => by
    refine ⟨fun i _ => .inl ⟨rfl, rfl⟩, by show isum q n = isum q n + ((0 : Nat) : Int); omega, fun i k hi hk h => ?_, ?_⟩
    · have := hr k hk
      have h : r k = -1 := h
      omega
    · show S * (t0 - ((0 : Nat) : Int)) ≤ isum (fun i => pos0 (r i)) n
      have e : isum (fun i => pos0 (r i)) n = isum r n := isum_congr n (fun i hi => by have := hr i hi; unfold pos0; rw [if_neg (by omega)])
      rw [e, hs]
      have : t0 - ((0 : Nat) : Int) = t0 := by omega
      rw [this]
      exact Int.le_refl _
  | t + 1, ht => by
    have ih := picked (q := q) hn hS hr hs t (by omega)
    generalize hQ : (run n (q, r) t).1 = Q at ih
    generalize hR : (run n (q, r) t).2 = R at ih
    have e1 : (run n (q, r) (t + 1)).1 = up Q (sel R (n - 1)) (Q (sel R (n - 1)) + 1) := by rw [← hQ, ← hR]; rfl
    have e2 : (run n (q, r) (t + 1)).2 = up R (sel R (n - 1)) (-1) := by rw [← hR]; rfl
    rw [e1, e2]
    have hx := sel_le R (n - 1)
    have hsp := fun j (hj : j < n) => (sel_spec R (n - 1) j (by omega)).1
    generalize sel R (n - 1) = x at hx hsp
    have hxn : x < n := by omega
    have hp : 0 < isum (fun i => pos0 (R i)) n := pick_pos hS (by have := ht; omega) ih.rest
    obtain ⟨j, hj, hj2⟩ := isum_pos n hp
    have hRx : 0 < R x := by
      have h1 := hsp j hj
      have h2 : 0 < pos0 (R j) := hj2
      unfold pos0 at h2
      split at h2 <;> omega
    have hx1 : R x = r x ∧ Q x = q x := by
      rcases ih.each x hxn with h | h
      · exact h
      · have := h.1; omega
    have hrx := hr x hxn
    refine ⟨fun i hi => ?_, ?_, fun i k hi hk h1 h2 => ?_, ?_⟩
    · by_cases e : i = x
      · subst e
        rw [up_same, up_same]
        exact .inr ⟨rfl, by rw [hx1.2], by rw [← hx1.1]; exact hRx⟩
      · rw [up_other _ _ e, up_other _ _ e]
        exact ih.each i hi
    · rw [isum_up _ _ _ _ hxn, ih.sum]
      have : ((t + 1 : Nat) : Int) = (t : Int) + 1 := by omega
      omega
    · by_cases e : i = x
      · subst e
        rw [up_same]
      · rw [up_other _ _ e]
        by_cases e2 : k = x
        · subst e2
          have h3 := hsp i hi
          rcases ih.each i hi with h | h
          · have h4 := h.1
            have h5 := hx1.1
            omega
          · exact h.1
        · rw [up_other _ _ e2] at h1
          exact ih.mono i k hi hk h1 h2
    · have e3 : isum (fun i => pos0 (up R x (-1) i)) n = isum (up (fun i => pos0 (R i)) x 0) n := isum_congr n (fun i hi => by
        by_cases e : i = x
        · subst e
          rw [up_same, up_same]
          rfl
        · rw [up_other _ _ e, up_other _ _ e])
      rw [e3, isum_up _ _ _ _ hxn]
      have e4 : pos0 (R x) = r x := by unfold pos0; rw [if_neg (by omega), hx1.1]
      have e5 : ((t + 1 : Nat) : Int) = (t : Int) + 1 := by omega
      show S * (t0 - ((t + 1 : Nat) : Int)) ≤ isum (fun i => pos0 (R i)) n - pos0 (R x) + 0
      rw [e4, e5]
      exact pick_num ih.rest hrx.2

/-- What the shares are, in plain numbers. -/
structure Fair (a s : Nat → Int) (n : Nat) (m S : Int) : Prop where
  each : ∀ i, i < n → s i = m * a i / S ∨ (s i = m * a i / S + 1 ∧ 0 < m * a i % S)
  sum : isum s n = m
  mono : ∀ i k, i < n → k < n → a k < a i → s k ≤ s i
theorem fair {a : Nat → Int} {m S : Int} {n : Nat} (hS : 0 < S) (hs : isum a n = S) (hm : 0 ≤ m) (ha : ∀ i, i < n → 0 ≤ a i) :
    Fair a (run n ((fun i => m * a i / S), (fun i => m * a i % S)) (m - isum (fun i => m * a i / S) n).toNat).1 n m S := by
  obtain ⟨l0, l1, l2⟩ := left_bound hS hs hm ha
  have hn : 0 < n := by
    rcases Nat.eq_zero_or_pos n with h | h
    · subst h
      have : isum a 0 = 0 := rfl
      omega
    · exact h
  have e0 : (((m - isum (fun i => m * a i / S) n).toNat : Nat) : Int) = m - isum (fun i => m * a i / S) n := Int.toNat_of_nonneg l0
  generalize (m - isum (fun i => m * a i / S) n).toNat = t at *
  have hp := picked (q := fun i => m * a i / S) (r := fun i => m * a i % S) (S := S) (t0 := m - isum (fun i => m * a i / S) n) hn hS (fun i _ => ⟨Int.emod_nonneg _ (by omega), Int.emod_lt_of_pos _ hS⟩) l2.symm t (by omega)
  generalize hQ : (run n ((fun i => m * a i / S), (fun i => m * a i % S)) t).1 = Q at *
  generalize hR : (run n ((fun i => m * a i / S), (fun i => m * a i % S)) t).2 = R at *
  refine ⟨fun i hi => ?_, ?_, fun i k hi hk hlt => ?_⟩
  · rcases hp.each i hi with h | h
    · exact .inl h.2
    · exact .inr h.2
  · have := hp.sum
    omega
  · have hle : m * a k ≤ m * a i := Int.mul_le_mul_of_nonneg_left (Int.le_of_lt hlt) hm
    have hq : m * a k / S ≤ m * a i / S := Int.ediv_le_ediv hS hle
    rcases hp.each k hk with h1 | ⟨h1, h2, h3⟩
    · have e1 : Q k = m * a k / S := h1.2
      rcases hp.each i hi with h | h
      · have e2 : Q i = m * a i / S := h.2
        omega
      · have e2 : Q i = m * a i / S + 1 := h.2.1
        omega
    · have e1 : Q k = m * a k / S + 1 := h2
      rcases hp.each i hi with h | h
      · have e2 : Q i = m * a i / S := h.2
        by_cases hlt2 : m * a k / S < m * a i / S
        · omega
        · have e3 : m * a k / S = m * a i / S := by omega
          have hm0 : 0 < m := by
            rcases Int.lt_or_eq_of_le hm with h | h
            · exact h
            · rw [← h, Int.zero_mul, Int.zero_emod] at h3
              omega
          have h5 : m * a k < m * a i := Int.mul_lt_mul_of_pos_left hlt hm0
          have d1 := Int.mul_ediv_add_emod (m * a k) S
          have d2 := Int.mul_ediv_add_emod (m * a i) S
          rw [e3] at d1
          have h6 : m * a k % S < m * a i % S := by omega
          have h7 := hp.mono i k hi hk h1 h6
          have h8 : R i = m * a i % S := h.1
          have := Int.emod_nonneg (m * a i) (show S ≠ 0 by omega)
          omega
      · have e2 : Q i = m * a i / S + 1 := h.2.1
        omega
/-- A share is off by less than one; it lies between the whole part and the next. -/
theorem Fair.near {a s : Nat → Int} {n : Nat} {m S : Int} (h : Fair a s n m S) (hS : 0 < S) {i : Nat} (hi : i < n) :
    m * a i - S < s i * S ∧ s i * S < m * a i + S ∧ m * a i / S ≤ s i ∧ s i ≤ (m * a i + S - 1) / S := by
  have d := Int.mul_ediv_add_emod (m * a i) S
  have r0 := Int.emod_nonneg (m * a i) (show S ≠ 0 by omega)
  have r1 := Int.emod_lt_of_pos (m * a i) hS
  rcases h.each i hi with e | ⟨e, hr⟩
  · rw [e]
    have e2 : m * a i / S * S = S * (m * a i / S) := Int.mul_comm _ _
    refine ⟨by omega, by omega, Int.le_refl _, Int.ediv_le_ediv hS (by omega)⟩
  · rw [e]
    have e2 : (m * a i / S + 1) * S = S * (m * a i / S) + S := by rw [Int.add_mul, Int.one_mul, Int.mul_comm]
    refine ⟨by omega, by omega, by omega, ?_⟩
    refine (Int.le_ediv_iff_mul_le hS).2 ?_
    omega
end Go.Proofs.Ytgdkimdikalmkaa.SH
namespace Go.Proofs.Ytgdkimdikalmkaa
open Go.RowKit Go.Proofs.YtgdkimdikalmkaaW.PrintWords Go.Proofs.YtgdkimdikalmkaaW.PrintLast Go.Proofs.YtgdkimdikalmkaaW.PrintMore Go.Proofs.Ytgdkimdikalmkaa.PAll
theorem shTo_fair {am : List Int} {m : Int} (hok : okAll am m = true) (hS : 0 < wsum am am.length) :
    SH.Fair (fun i => rd am (i : Int)) (fun i => rd (shTo am m (wsum am am.length) (shLeft am m (wsum am am.length))) (i : Int)) am.length m (wsum am am.length) := by
  have hw := (wsum_eq hok am.length (Nat.le_refl _)).1
  have h := SH.fair hS hw.symm (okAll_m hok).1 (fun i hi => (okAll_at hok hi).1)
  have e : ∀ i, i < am.length → rd (shTo am m (wsum am am.length) (shLeft am m (wsum am am.length))) (i : Int) = (SH.run am.length (shq am m (wsum am am.length), shr am m (wsum am am.length)) (shLeft am m (wsum am am.length))).1 i := fun i hi => shTo_rd _ hi
  refine ⟨fun i hi => ?_, ?_, fun i k hi hk hlt => ?_⟩
  · show rd (shTo _ _ _ _) _ = _ ∨ (rd (shTo _ _ _ _) _ = _ ∧ _)
    rw [e i hi]
    exact h.each i hi
  · rw [SH.isum_congr am.length e]
    exact h.sum
  · show rd (shTo _ _ _ _) _ ≤ rd (shTo _ _ _ _) _
    rw [e i hi, e k hk]
    exact h.mono i k hi hk hlt
end Go.Proofs.Ytgdkimdikalmkaa
