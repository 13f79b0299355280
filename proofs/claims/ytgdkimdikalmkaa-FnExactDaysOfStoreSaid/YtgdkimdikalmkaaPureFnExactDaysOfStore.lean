/- The program's DaysOfStore answers what the reference's answers, for all whole numbers: the plain law. No condition. -/
import Derived.Test.YtgdkimdikalmkaaPFnExactDaysOfStorex1
namespace Go.Proofs.Ytgdkimdikalmkaa.Pure
open Go.RowKit Go.Proofs.Ytgdkimdikalmkaa.PFnExactDaysOfStore Go.Proofs.YtgdkimdikalmkaaW.PrintWords Go.Proofs.YtgdkimdikalmkaaW.PrintLast Go.Proofs.YtgdkimdikalmkaaW.PrintMore
set_option linter.unusedSimpArgs false
set_option linter.unusedVariables false

theorem sa_within (a b c : Int) : impl_within.f a b c = some (decide (b ≤ a) && decide (a ≤ c)) := by
  unfold impl_within.f; by_cases h : a ≥ b <;> simp [h]
theorem sa_in (a b c : Int) : spec_l00In.f a b c = some (decide (b ≤ a) && decide (a ≤ c)) := by
  unfold spec_l00In.f; by_cases h : a ≥ b <;> simp [h]

theorem sa_mul {a m : Int} (h0 : 0 ≤ a) (h1 : a ≤ 1000000) (h2 : 0 ≤ m) (h3 : m ≤ 100) : 0 ≤ a * m ∧ a * m ≤ 100000000 := by
  refine ⟨Int.mul_nonneg h0 h2, ?_⟩
  have := Int.mul_le_mul h1 h3 h2 (by omega : (0 : Int) ≤ 1000000)
  omega

def sa_eat (a m : Int) : Int := mn (a * m / 1000) (50 * m)

theorem sa_eat_bd {a m : Int} (h0 : 0 ≤ a) (h1 : a ≤ 1000000) (h2 : 0 ≤ m) (h3 : m ≤ 100) : 0 ≤ sa_eat a m ∧ sa_eat a m ≤ a := by
  have hm := sa_mul h0 h1 h2 h3
  have h4 : a * m ≤ a * 100 := Int.mul_le_mul_of_nonneg_left h3 h0
  unfold sa_eat mn
  split <;> omega

theorem sa_wraps {a m : Int} (h0 : 0 ≤ a) (h1 : a ≤ 1000000) (h2 : 0 ≤ m) (h3 : m ≤ 100) :
    wrap64 (Int.tdiv (wrap64 (a * m)) 1000) = a * m / 1000 ∧ wrap64 (50 * m) = 50 * m := by
  have hm := sa_mul h0 h1 h2 h3
  have e : wrap64 (a * m) = a * m := by unfold wrap64; omega
  rw [e, Int.tdiv_eq_ediv_of_nonneg hm.1]
  constructor <;> unfold wrap64 <;> omega

theorem sa_next {a m c : Int} (h0 : 0 ≤ a) (h1 : a ≤ 1000000) (h2 : 0 ≤ m) (h3 : m ≤ 100) (h4 : 0 ≤ c) (h5 : c ≤ 10) :
    impl_nextDay.f a m c = some (a - sa_eat a m, mx 0 (m - c)) := by
  obtain ⟨e1, e2⟩ := sa_wraps h0 h1 h2 h3
  have hb := sa_eat_bd h0 h1 h2 h3
  have e3 : wrap64 (m - c) = m - c := by unfold wrap64; omega
  unfold impl_nextDay.f
  rw [e1, e2, e3]
  have e4 : wrap64 (a - mn (a * m / 1000) (50 * m)) = a - sa_eat a m := by
    show wrap64 (a - sa_eat a m) = _
    unfold wrap64; omega
  rw [e4]

theorem sa_eaten {a m : Int} (h0 : 0 ≤ a) (h1 : a ≤ 1000000) (h2 : 0 ≤ m) (h3 : m ≤ 100) : spec_l07Eaten.f a m = some (sa_eat a m) := by
  obtain ⟨e1, e2⟩ := sa_wraps h0 h1 h2 h3
  unfold spec_l07Eaten.f spec_l00Min.f sa_eat mn
  rw [e1, e2]
  by_cases h : a * m / 1000 < 50 * m
  · have h' : ¬ 50 * m < a * m / 1000 := by omega
    simp [h, h']
  · by_cases h' : 50 * m < a * m / 1000
    · simp [h, h']
    · have : a * m / 1000 = 50 * m := by omega
      simp [this]

theorem sa_max (a b : Int) : spec_l00Max.f a b = some (mx a b) := by
  unfold spec_l00Max.f mx
  by_cases h : a > b
  · have : ¬ a < b := by omega
    simp [h, this]
  · by_cases h' : a < b
    · simp [h, h']
    · have : a = b := by omega
      simp [this]

theorem sa_isStore (a m c : Int) : impl_isStore.f a m c = some ((decide (0 ≤ a) && decide (a ≤ 1000000)) && ((decide (0 ≤ m) && decide (m ≤ 100)) && (decide (0 ≤ c) && decide (c ≤ 10)))) := by
  unfold impl_isStore.f
  simp only [sa_within, Option.bind_some]
  generalize (decide (0 ≤ a) && decide (a ≤ 1000000)) = x
  generalize (decide (0 ≤ m) && decide (m ≤ 100)) = y
  cases x <;> cases y <;> rfl

theorem sa_store (a m c n : Int) : spec_l07Store.f a m c n = some ((decide (0 ≤ a) && decide (a ≤ 1000000)) && ((decide (0 ≤ m) && decide (m ≤ 100)) && ((decide (0 ≤ c) && decide (c ≤ 10)) && (decide (0 ≤ n) && decide (n ≤ 20))))) := by
  unfold spec_l07Store.f
  simp only [sa_in, Option.bind_some]
  generalize (decide (0 ≤ a) && decide (a ≤ 1000000)) = x
  generalize (decide (0 ≤ m) && decide (m ≤ 100)) = y
  generalize (decide (0 ≤ c) && decide (c ≤ 10)) = z
  cases x <;> cases y <;> cases z <;> rfl


theorem sa_loop (n c : Int) (hc0 : 0 ≤ c) (hc1 : c ≤ 10) (d : Nat) : ∀ (k : Nat) (a m i : Int), 0 ≤ a → a ≤ 1000000 → 0 ≤ m → m ≤ 100 → 0 ≤ i → i ≤ 21 → 21 - i = d → d < k →
    ∃ r, spec_DaysOfStore.l0 k a m c n i = some r ∧ impl_DaysOfStore.l0 k a m c n i = some r := by
  induction d with
  | zero =>
    intro k a m i h0 h1 h2 h3 hi0 hi hd hk
    obtain ⟨k, rfl⟩ : ∃ m, k = m + 1 := ⟨k - 1, by omega⟩
    refine ⟨(0, 6), ?_, ?_⟩
    · simp only [spec_DaysOfStore.l0]; rw [if_neg (by omega)]
    · simp only [impl_DaysOfStore.l0]; rw [if_neg (by omega)]
  | succ d ih =>
    intro k a m i h0 h1 h2 h3 hi0 hi hd hk
    obtain ⟨k, rfl⟩ : ∃ m, k = m + 1 := ⟨k - 1, by omega⟩
    by_cases hlt : a < n
    · refine ⟨(i, 0), ?_, ?_⟩
      · simp only [spec_DaysOfStore.l0]; rw [if_pos (by omega), if_pos hlt]
      · simp only [impl_DaysOfStore.l0]; rw [if_pos (by omega), if_pos hlt]
    have hb := sa_eat_bd h0 h1 h2 h3
    have hm : 0 ≤ mx 0 (m - c) ∧ mx 0 (m - c) ≤ 100 := by unfold mx; split <;> omega
    obtain ⟨r, hr1, hr2⟩ := ih k (a - sa_eat a m) (mx 0 (m - c)) (i + 1) (by omega) (by omega) hm.1 hm.2 (by omega) (by omega) (by omega) (by omega)
    have e3 : wrap64 (m - c) = m - c := by unfold wrap64; omega
    have e4 : wrap64 (a - sa_eat a m) = a - sa_eat a m := by unfold wrap64; omega
    have e5 : wrap64 (i + 1) = i + 1 := by unfold wrap64; omega
    refine ⟨r, ?_, ?_⟩
    · simp only [spec_DaysOfStore.l0]
      rw [if_pos (by omega), if_neg hlt, sa_eaten h0 h1 h2 h3, e3, sa_max]
      simp only [Option.bind_some]
      rw [e4, e5]; exact hr1
    · simp only [impl_DaysOfStore.l0]
      rw [if_pos (by omega), if_neg hlt, sa_next h0 h1 h2 h3 hc0 hc1]
      simp only [Option.bind_some]
      rw [e5]; exact hr2

theorem FnExactDaysOfStore : laws_FnExactDaysOfStore.Pure := by
  intro a m c n _ _ _ _
  by_cases H : 0 ≤ a ∧ a ≤ 1000000 ∧ 0 ≤ m ∧ m ≤ 100 ∧ 0 ≤ c ∧ c ≤ 10 ∧ 1 ≤ n ∧ n ≤ 1000000
  · obtain ⟨h0, h1, h2, h3, h4, h5, h6, h7⟩ := H
    obtain ⟨r, hr1, hr2⟩ := sa_loop n c h4 h5 21 22 a m 0 h0 h1 h2 h3 (by omega) (by omega) (by omega) (by omega)
    refine ⟨23, ?_⟩
    unfold laws_FnExactDaysOfStore.f spec_DaysOfStore.f impl_DaysOfStore.f
    simp only [sa_store, sa_isStore, sa_within, sa_in, Option.bind_some, h0, h1, h2, h3, h4, h5, h6, h7, decide_true, Bool.and_self, if_true, Bool.not_true, Int.le_refl, show (0 : Int) ≤ 20 by omega]
    simp only [impl_DaysOfStore.j0, spec_DaysOfStore.j0, Bool.false_eq_true, if_false, Option.bind_some]
    rw [hr1, hr2]
    simp
  · refine ⟨1, ?_⟩
    have hx : ((decide (0 ≤ a) && decide (a ≤ 1000000)) && ((decide (0 ≤ m) && decide (m ≤ 100)) && ((decide (0 ≤ c) && decide (c ≤ 10)) && (decide (1 ≤ n) && decide (n ≤ 1000000))))) = false := by
      rw [Bool.eq_false_iff]; intro h; simp only [Bool.and_eq_true, decide_eq_true_eq] at h; exact H (by omega)
    unfold laws_FnExactDaysOfStore.f spec_DaysOfStore.f impl_DaysOfStore.f
    simp only [sa_store, sa_isStore, sa_within, sa_in, Option.bind_some, Bool.false_eq_true, if_false, decide_true, Bool.and_self, Int.le_refl, show (0 : Int) ≤ 20 by omega]
    revert hx
    generalize (decide (0 ≤ a) && decide (a ≤ 1000000)) = x
    generalize (decide (0 ≤ m) && decide (m ≤ 100)) = y
    generalize (decide (0 ≤ c) && decide (c ≤ 10)) = z
    generalize (decide (1 ≤ n) && decide (n ≤ 1000000)) = u
    cases x <;> cases y <;> cases z <;> cases u <;> simp [impl_DaysOfStore.j0, spec_DaysOfStore.j0]

end Go.Proofs.Ytgdkimdikalmkaa.Pure
