/- Stores never grow, and are less than a need behind as many days as told: the plain law. No condition. -/
import Derived.Test.YtgdkimdikalmkaaPFnStoresx3
namespace Go.Proofs.Ytgdkimdikalmkaa.PFnStores
open Go.RowKit Go.Proofs.YtgdkimdikalmkaaW.PrintWords Go.Proofs.YtgdkimdikalmkaaW.PrintLast Go.Proofs.YtgdkimdikalmkaaW.PrintMore
set_option linter.unusedSimpArgs false
set_option linter.unusedVariables false

theorem ev_eq {α : Type} {r : α} {g : Nat → Option α} (h : ∀ k, g k = some r) : Ev g r := ⟨0, fun k _ => h k⟩
theorem sa_within (a b c : Int) : impl_within.f a b c = some (decide (b ≤ a) && decide (a ≤ c)) := by
  unfold impl_within.f; by_cases h : a ≥ b <;> simp [h]
theorem sa_in (a b c : Int) : spec_l00In.f a b c = some (decide (b ≤ a) && decide (a ≤ c)) := by
  unfold spec_l00In.f; by_cases h : a ≥ b <;> simp [h]
theorem sa_mul {a m : Int} (h0 : 0 ≤ a) (h1 : a ≤ 1000000) (h2 : 0 ≤ m) (h3 : m ≤ 100) : 0 ≤ a * m ∧ a * m ≤ 100000000 := by
  refine ⟨Int.mul_nonneg h0 h2, ?_⟩
  have := Int.mul_le_mul h1 h3 h2 (by omega : (0 : Int) ≤ 1000000)
  omega
def sa_eat (a m : Int) : Int := mn (a * m / 1000) (50 * m)
theorem sa_eat_bd {a m : Int} (h0 : 0 ≤ a) (h1 : a ≤ 1000000) (h2 : 0 ≤ m) (h3 : m ≤ 100) : 0 ≤ sa_eat a m ∧ sa_eat a m ≤ a := by
  have hm := sa_mul h0 h1 h2 h3
  have h4 : a * m ≤ a * 100 := Int.mul_le_mul_of_nonneg_left h3 h0
  unfold sa_eat mn
  split <;> omega
theorem sa_wraps {a m : Int} (h0 : 0 ≤ a) (h1 : a ≤ 1000000) (h2 : 0 ≤ m) (h3 : m ≤ 100) :
    wrap64 (Int.tdiv (wrap64 (a * m)) 1000) = a * m / 1000 ∧ wrap64 (50 * m) = 50 * m := by
  have hm := sa_mul h0 h1 h2 h3
  have e : wrap64 (a * m) = a * m := by unfold wrap64; omega
  rw [e, Int.tdiv_eq_ediv_of_nonneg hm.1]
  constructor <;> unfold wrap64 <;> omega
theorem sa_next {a m c : Int} (h0 : 0 ≤ a) (h1 : a ≤ 1000000) (h2 : 0 ≤ m) (h3 : m ≤ 100) (h4 : 0 ≤ c) (h5 : c ≤ 10) :
    impl_nextDay.f a m c = some (a - sa_eat a m, mx 0 (m - c)) := by
  obtain ⟨e1, e2⟩ := sa_wraps h0 h1 h2 h3
  have hb := sa_eat_bd h0 h1 h2 h3
  have e3 : wrap64 (m - c) = m - c := by unfold wrap64; omega
  unfold impl_nextDay.f
  rw [e1, e2, e3]
  have e4 : wrap64 (a - mn (a * m / 1000) (50 * m)) = a - sa_eat a m := by
    show wrap64 (a - sa_eat a m) = _
    unfold wrap64; omega
  rw [e4]
theorem sa_eaten {a m : Int} (h0 : 0 ≤ a) (h1 : a ≤ 1000000) (h2 : 0 ≤ m) (h3 : m ≤ 100) : spec_l07Eaten.f a m = some (sa_eat a m) := by
  obtain ⟨e1, e2⟩ := sa_wraps h0 h1 h2 h3
  unfold spec_l07Eaten.f spec_l00Min.f sa_eat mn
  rw [e1, e2]
  by_cases h : a * m / 1000 < 50 * m
  · have h' : ¬ 50 * m < a * m / 1000 := by omega
    simp [h, h']
  · by_cases h' : 50 * m < a * m / 1000
    · simp [h, h']
    · have : a * m / 1000 = 50 * m := by omega
      simp [this]
theorem sa_max (a b : Int) : spec_l00Max.f a b = some (mx a b) := by
  unfold spec_l00Max.f mx
  by_cases h : a > b
  · have : ¬ a < b := by omega
    simp [h, this]
  · by_cases h' : a < b
    · simp [h, h']
    · have : a = b := by omega
      simp [this]

/-- What is in the store behind some days, and how many mice there are. -/
def dayN (a m c : Int) : Nat → Int × Int
  | 0 => (a, m)
  | i + 1 => ((dayN a m c i).1 - sa_eat (dayN a m c i).1 (dayN a m c i).2, mx 0 ((dayN a m c i).2 - c))
structure Fine (a m c : Int) : Prop where
  a0 : 0 ≤ a
  a1 : a ≤ 1000000
  m0 : 0 ≤ m
  m1 : m ≤ 100
  c0 : 0 ≤ c
  c1 : c ≤ 10
theorem dayN_bd {a m c : Int} (h : Fine a m c) : ∀ i, 0 ≤ (dayN a m c i).1 ∧ (dayN a m c i).1 ≤ 1000000 ∧ 0 ≤ (dayN a m c i).2 ∧ (dayN a m c i).2 ≤ 100
  | 0 => ⟨h.a0, h.a1, h.m0, h.m1⟩
  | i + 1 => by
    obtain ⟨b0, b1, b2, b3⟩ := dayN_bd h i
    have hb := sa_eat_bd b0 b1 b2 b3
    have := h.c0
    simp only [dayN]
    refine ⟨by omega, by omega, ?_, ?_⟩ <;> (unfold mx; split <;> omega)
theorem dayN_less {a m c : Int} (h : Fine a m c) (i : Nat) : (dayN a m c (i + 1)).1 ≤ (dayN a m c i).1 := by
  obtain ⟨b0, b1, b2, b3⟩ := dayN_bd h i
  have hb := sa_eat_bd b0 b1 b2 b3
  simp only [dayN]
  omega
theorem dayN_mice {a m c : Int} (h : Fine a m c) : ∀ i : Nat, (dayN a m c i).2 = mx 0 (m - c * (i : Int))
  | 0 => by
    have := h.m0
    show m = mx 0 (m - c * 0)
    rw [Int.mul_zero, Int.sub_zero]
    unfold mx
    split <;> omega
  | i + 1 => by
    have ih := dayN_mice h i
    have := h.c0
    simp only [dayN]
    rw [ih]
    have e : c * ((i + 1 : Nat) : Int) = c * (i : Int) + c := by rw [Int.natCast_succ, Int.mul_add, Int.mul_one]
    rw [e]
    generalize c * (i : Int) = t
    unfold mx
    split <;> split <;> split <;> omega

theorem w1 {i : Nat} (h : i ≤ 100) : wrap64 ((i : Int) + 1) = ((i + 1 : Nat) : Int) := by unfold wrap64; omega

theorem after_l0 {a m c : Int} (h : Fine a m c) (n : Nat) (hn : n ≤ 20) (d : Nat) : ∀ i : Nat, i ≤ n → n - i = d →
    Ev (fun k => spec_StoreAfter.l0 k (dayN a m c i).1 (dayN a m c i).2 c (n : Int) (i : Int)) ((dayN a m c n).1, (dayN a m c n).2, 0) ∧ Ev (fun k => impl_StoreAfter.l0 k (dayN a m c i).1 (dayN a m c i).2 c (n : Int) (i : Int)) ((dayN a m c n).1, (dayN a m c n).2, 0) := by
  induction d with
  | zero =>
    intro i hi hd
    obtain rfl : i = n := by omega
    refine ⟨Ev.step (f := fun _ => some _) (fun k => ?_) (Ev.now _), Ev.step (f := fun _ => some _) (fun k => ?_) (Ev.now _)⟩
    · simp only [spec_StoreAfter.l0]; rw [if_neg (by omega)]
    · simp only [impl_StoreAfter.l0]; rw [if_neg (by omega)]
  | succ d ih =>
    intro i hi hd
    obtain ⟨b0, b1, b2, b3⟩ := dayN_bd h i
    obtain ⟨h1, h2⟩ := ih (i + 1) (by omega) (by omega)
    have hb := sa_eat_bd b0 b1 b2 b3
    have c0 := h.c0
    have c1 := h.c1
    have e3 : wrap64 ((dayN a m c i).2 - c) = (dayN a m c i).2 - c := by unfold wrap64; omega
    have e4 : wrap64 ((dayN a m c i).1 - sa_eat (dayN a m c i).1 (dayN a m c i).2) = (dayN a m c i).1 - sa_eat (dayN a m c i).1 (dayN a m c i).2 := by unfold wrap64; omega
    refine ⟨Ev.step (fun k => ?_) h1, Ev.step (fun k => ?_) h2⟩
    · simp only [spec_StoreAfter.l0]
      rw [if_pos (by omega), sa_eaten b0 b1 b2 b3, e3, sa_max]
      simp only [Option.bind_some]
      rw [e4, w1 (by omega)]
      rfl
    · simp only [impl_StoreAfter.l0]
      rw [if_pos (by omega), sa_next b0 b1 b2 b3 c0 c1]
      simp only [Option.bind_some]
      rw [w1 (by omega)]
      rfl
theorem ok4 {a m c : Int} (h : Fine a m c) (n : Nat) (hn : n ≤ 20) : spec_l07Store.f a m c (n : Int) = some true := by
  have := h.a0; have := h.a1; have := h.m0; have := h.m1; have := h.c0; have := h.c1
  have hn' : (n : Int) ≤ 20 := by omega
  unfold spec_l07Store.f
  simp [sa_in, *]
theorem ok3 {a m c : Int} (h : Fine a m c) : impl_isStore.f a m c = some true := by
  have := h.a0; have := h.a1; have := h.m0; have := h.m1; have := h.c0; have := h.c1
  unfold impl_isStore.f
  simp [sa_within, *]
theorem after_s {a m c : Int} (h : Fine a m c) (n : Nat) (hn : n ≤ 20) : Ev (fun k => spec_StoreAfter.f k a m c (n : Int)) ((dayN a m c n).1, (dayN a m c n).2, 0) := by
  refine Ev.congr (fun k => ?_) (after_l0 h n hn n 0 (by omega) (by omega)).1
  unfold spec_StoreAfter.f
  rw [ok4 h n hn]
  rfl
theorem after_i {a m c : Int} (h : Fine a m c) (n : Nat) (hn : n ≤ 20) : Ev (fun k => impl_StoreAfter.f k a m c (n : Int)) ((dayN a m c n).1, (dayN a m c n).2, 0) := by
  refine Ev.congr (f := fun k => impl_StoreAfter.j0 k a m c (n : Int) false) (fun k => ?_) (Ev.step (fun k => ?_) (after_l0 h n hn n 0 (by omega) (by omega)).2)
  · have hn' : (n : Int) ≤ 20 := by omega
    have hn0 : (0 : Int) ≤ (n : Int) := by omega
    unfold impl_StoreAfter.f
    rw [ok3 h, sa_within]
    simp [hn', hn0]
  · simp only [impl_StoreAfter.j0, Bool.false_eq_true, if_false]
    rfl

/-- What DaysOfStore answers. -/
def Told (a m c need : Int) (r : Int × Int) : Prop := (r = (0, 6) ∧ ∀ i : Nat, i ≤ 20 → need ≤ (dayN a m c i).1) ∨ ∃ d : Nat, r = ((d : Int), 0) ∧ d ≤ 20 ∧ (dayN a m c d).1 < need ∧ ∀ i : Nat, i < d → need ≤ (dayN a m c i).1
theorem days_l0 {a m c : Int} (h : Fine a m c) (need : Int) (d : Nat) : ∀ i : Nat, i ≤ 21 → 21 - i = d → (∀ j : Nat, j < i → need ≤ (dayN a m c j).1) → ∃ r, Told a m c need r ∧
    Ev (fun k => spec_DaysOfStore.l0 k (dayN a m c i).1 (dayN a m c i).2 c need (i : Int)) r ∧ Ev (fun k => impl_DaysOfStore.l0 k (dayN a m c i).1 (dayN a m c i).2 c need (i : Int)) r := by
  induction d with
  | zero =>
    intro i hi hd hj
    obtain rfl : i = 21 := by omega
    refine ⟨(0, 6), .inl ⟨rfl, fun i hi => hj i (by omega)⟩, Ev.step (f := fun _ => some _) (fun k => ?_) (Ev.now _), Ev.step (f := fun _ => some _) (fun k => ?_) (Ev.now _)⟩
    · simp only [spec_DaysOfStore.l0]; rw [if_neg (by omega)]
    · simp only [impl_DaysOfStore.l0]; rw [if_neg (by omega)]
  | succ d ih =>
    intro i hi hd hj
    by_cases hn : (dayN a m c i).1 < need
    · refine ⟨((i : Int), 0), .inr ⟨i, rfl, by omega, hn, hj⟩, Ev.step (f := fun _ => some _) (fun k => ?_) (Ev.now _), Ev.step (f := fun _ => some _) (fun k => ?_) (Ev.now _)⟩
      · simp only [spec_DaysOfStore.l0]; rw [if_pos (by omega), if_pos hn]
      · simp only [impl_DaysOfStore.l0]; rw [if_pos (by omega), if_pos hn]
    · obtain ⟨b0, b1, b2, b3⟩ := dayN_bd h i
      obtain ⟨r, ht, h1, h2⟩ := ih (i + 1) (by omega) (by omega) (fun j hj' => by
        by_cases e : j = i
        · rw [e]; omega
        · exact hj j (by omega))
      have hb := sa_eat_bd b0 b1 b2 b3
      have c0 := h.c0
      have c1 := h.c1
      have e3 : wrap64 ((dayN a m c i).2 - c) = (dayN a m c i).2 - c := by unfold wrap64; omega
      have e4 : wrap64 ((dayN a m c i).1 - sa_eat (dayN a m c i).1 (dayN a m c i).2) = (dayN a m c i).1 - sa_eat (dayN a m c i).1 (dayN a m c i).2 := by unfold wrap64; omega
      refine ⟨r, ht, Ev.step (fun k => ?_) h1, Ev.step (fun k => ?_) h2⟩
      · simp only [spec_DaysOfStore.l0]
        rw [if_pos (by omega), if_neg hn, sa_eaten b0 b1 b2 b3, e3, sa_max]
        simp only [Option.bind_some]
        rw [e4, w1 (by omega)]
        rfl
      · simp only [impl_DaysOfStore.l0]
        rw [if_pos (by omega), if_neg hn, sa_next b0 b1 b2 b3 c0 c1]
        simp only [Option.bind_some]
        rw [w1 (by omega)]
        rfl
theorem days {a m c : Int} (h : Fine a m c) {need : Int} (n0 : 1 ≤ need) (n1 : need ≤ 1000000) : ∃ r, Told a m c need r ∧ Ev (fun k => spec_DaysOfStore.f k a m c need) r ∧ Ev (fun k => impl_DaysOfStore.f k a m c need) r := by
  obtain ⟨r, ht, h1, h2⟩ := days_l0 h need 21 0 (by omega) (by omega) (fun j hj => by omega)
  refine ⟨r, ht, Ev.congr (f := fun k => spec_DaysOfStore.j0 k a m c need false) (fun k => ?_) (Ev.step (fun k => ?_) h1), Ev.congr (f := fun k => impl_DaysOfStore.j0 k a m c need false) (fun k => ?_) (Ev.step (fun k => ?_) h2)⟩
  · unfold spec_DaysOfStore.f
    rw [show (0 : Int) = ((0 : Nat) : Int) from rfl, ok4 h 0 (by omega), sa_in]
    simp [n0, n1]
  · simp only [spec_DaysOfStore.j0, Bool.false_eq_true, if_false]
    rfl
  · unfold impl_DaysOfStore.f
    rw [ok3 h, sa_within]
    simp [n0, n1]
  · simp only [impl_DaysOfStore.j0, Bool.false_eq_true, if_false]
    rfl

theorem pick (l : List Int) (hb : ∀ x ∈ l, (Lit.int .u8 x).wf = true) (hl : l.length ≤ 4096) (n : Int) (h1 : 1 < n) (h2 : n ≤ 200) : ∃ v, spec_P6Pick.f l n = some v ∧ 0 ≤ v ∧ v < n := by
  have key : ∃ b s t, spec_l00Src_next.f l 0 0 = some (b, s, t) ∧ 0 ≤ b := by
    unfold spec_l00Src_next.f
    by_cases h : (0 : Int) < (l.length : Int)
    · have e : wrap64 ((0 : Int) + 1) ≤ (l.length : Int) := by unfold wrap64; omega
      rw [if_pos h, if_pos (by omega), if_pos e]
      refine ⟨_, _, _, rfl, ?_⟩
      have hm : rd l 0 ∈ l := by
        cases l with
        | nil => simp at h
        | cons x xs => simp [rd]
      have hw := hb _ hm
      generalize rd l 0 = x at *
      have hh : IntKind.u8.min ≤ x ∧ x ≤ IntKind.u8.max := by simpa [Lit.wf] using hw
      rw [show IntKind.u8.min = 0 by decide +kernel, show IntKind.u8.max = 255 by decide +kernel] at hh
      unfold wrap64
      omega
    · have e : ¬ wrap64 ((0 : Int) + 1) ≤ (l.length : Int) := by unfold wrap64; omega
      rw [if_neg h, if_neg e]
      exact ⟨_, _, _, rfl, by decide +kernel⟩
  obtain ⟨b, s, t, hk, hb0⟩ := key
  refine ⟨Int.tmod b n, ?_, ?_, ?_⟩
  · unfold spec_P6Pick.f spec_l00From.f spec_l00Src_pick.f
    simp only [Option.bind_some]
    rw [if_neg (by omega), hk]
    simp only [Option.bind_some]
    rw [if_neg (by omega), if_neg (by omega)]
    rfl
  · rw [Int.tmod_eq_emod_of_nonneg hb0]; exact Int.emod_nonneg _ (by omega)
  · rw [Int.tmod_eq_emod_of_nonneg hb0]; exact Int.emod_lt_of_pos _ (by omega)

theorem law_j3 {a m c : Int} (h : Fine a m c) (need : Int) (d : Nat) (hd : d ≤ 20) (hlow : ∀ i : Nat, i < d → need ≤ (dayN a m c i).1) : Ev (fun k => laws_FnStores.j3 k a m c need (d : Int) false) true := by
  by_cases e : d = 0
  · subst e
    refine Ev.step (f := fun _ => some true) (fun k => ?_) (Ev.now _)
    simp only [laws_FnStores.j3, Bool.false_eq_true, if_false]
    rfl
  · have hw : wrap64 ((d : Int) - 1) = ((d - 1 : Nat) : Int) := by unfold wrap64; omega
    have hx := hlow (d - 1) (by omega)
    refine Ev.step (f := fun k => (impl_StoreAfter.f k a m c ((d - 1 : Nat) : Int)).bind fun bt => if bt.2.2 = 0 then some (decide (bt.1 ≥ need)) else some false) (fun k => ?_) (Ev.bind (after_i h (d - 1) (by omega)) (ev_eq fun k => ?_))
    · simp only [laws_FnStores.j3, Bool.false_eq_true, if_false]
      rw [if_neg (by omega), hw]
    · simp [hx]
theorem law_j2 {a m c : Int} (h : Fine a m c) (need : Int) (r : Int × Int) (ht : Told a m c need r) : Ev (fun k => laws_FnStores.j2 k a m c need r.2 r.1 false) true := by
  rcases ht with ⟨rfl, hall⟩ | ⟨d, rfl, hd, hlt, hlow⟩
  · have hx := hall 20 (by omega)
    refine Ev.step (f := fun k => (impl_StoreAfter.f k a m c ((20 : Nat) : Int)).bind fun bt => if (6 : Int) = 6 then (if bt.2.2 = 0 then some (decide (bt.1 ≥ need)) else some false) else some false) (fun k => ?_) (Ev.bind (after_i h 20 (by omega)) (ev_eq fun k => ?_))
    · simp only [laws_FnStores.j2, Bool.false_eq_true, if_false]
      rfl
    · simp [hx]
  · have hx : ¬ (dayN a m c d).1 ≥ need := by omega
    refine Ev.step (f := fun k => (impl_StoreAfter.f k a m c (d : Int)).bind fun bt => if bt.2.2 = 0 then laws_FnStores.j3 k a m c need (d : Int) (decide (bt.1 ≥ need)) else laws_FnStores.j3 k a m c need (d : Int) true) (fun k => ?_) (Ev.bind (after_i h d hd) (Ev.congr (fun k => ?_) (law_j3 h need d hd hlow)))
    · simp only [laws_FnStores.j2, Bool.false_eq_true, if_false]
      rfl
    · simp [hx]
theorem law_l0 (x1 : List Int) (hb : ∀ x ∈ x1, (Lit.int .u8 x).wf = true) (hl : x1.length ≤ 4096) {a m c : Int} (h : Fine a m c) (d : Nat) : ∀ i : Nat, i ≤ 13 → 13 - i = d → ∀ before : Int, (dayN a m c i).1 ≤ before →
    Ev (fun k => laws_FnStores.l0 k x1 a m c before (i : Int)) true := by
  induction d with
  | zero =>
    intro i hi hd before hbef
    obtain rfl : i = 13 := by omega
    obtain ⟨v, hv, v0, v1⟩ := pick x1 hb hl 200 (by omega) (by omega)
    have hw : wrap64 (1 + wrap64 (v * 100)) = 1 + v * 100 := by unfold wrap64; omega
    obtain ⟨r, ht, hs, hi2⟩ := days h (need := 1 + v * 100) (by omega) (by omega)
    refine Ev.step (f := fun k => (impl_DaysOfStore.f k a m c (1 + v * 100)).bind fun bt152 => ((spec_DaysOfStore.f k a m c (1 + v * 100)).bind fun bt154 => (if bt152.2 = bt154.2 then (laws_FnStores.j2 k a m c (1 + v * 100) bt152.2 bt154.1 (bt152.1 != bt154.1)) else (laws_FnStores.j2 k a m c (1 + v * 100) bt152.2 bt154.1 true)))) (fun k => ?_) (Ev.bind hi2 (Ev.bind hs (Ev.congr (fun k => ?_) (law_j2 h _ r ht))))
    · simp only [laws_FnStores.l0]
      rw [if_neg (by omega), hv]
      simp only [Option.bind_some, hw]
    · simp
  | succ d ih =>
    intro i hi hd before hbef
    obtain ⟨b0, b1, b2, b3⟩ := dayN_bd h i
    have hm := dayN_mice h i
    have hle := dayN_less h i
    have c0 := h.c0; have c1 := h.c1; have m0 := h.m0; have m1 := h.m1
    have hci : 0 ≤ c * (i : Int) ∧ c * (i : Int) ≤ 130 := by
      have : (i : Int) ≤ 13 := by omega
      exact ⟨Int.mul_nonneg c0 (by omega), by have := Int.mul_le_mul c1 this (by omega) (by omega : (0 : Int) ≤ 10); omega⟩
    have hw : wrap64 (m - wrap64 (c * (i : Int))) = m - c * (i : Int) := by unfold wrap64; omega
    refine Ev.step (f := fun k => (impl_StoreAfter.f k a m c (i : Int)).bind fun bt145 => ((spec_StoreAfter.f k a m c (i : Int)).bind fun bt148 => (if bt145.2.2 = bt148.2.2 then (if bt145.2.2 = 0 then (if bt145.1 = bt148.1 then (if bt145.2.1 = bt148.2.1 then (if bt148.1 > before then (some false) else (if bt148.1 < 0 then (some false) else (if bt148.2.1 = (mx 0 (m - c * (i : Int))) then (laws_FnStores.l0 k x1 a m c bt148.1 ((i + 1 : Nat) : Int)) else (some false)))) else (some false)) else (some false)) else (some false)) else (some false)))) (fun k => ?_)
      (Ev.bind (after_i h i (by omega)) (Ev.bind (after_s h i (by omega)) (Ev.congr (fun k => ?_) (ih (i + 1) (by omega) (by omega) (dayN a m c i).1 hle))))
    · simp only [laws_FnStores.l0]
      rw [if_pos (by omega), hw, w1 (by omega)]
    · simp only [if_true]
      rw [if_neg (by omega), if_neg (by omega), if_pos hm]
end Go.Proofs.Ytgdkimdikalmkaa.PFnStores
namespace Go.Proofs.Ytgdkimdikalmkaa.Pure
open Go.RowKit Go.Proofs.Ytgdkimdikalmkaa.PFnStores Go.Proofs.YtgdkimdikalmkaaW.PrintWords Go.Proofs.YtgdkimdikalmkaaW.PrintLast Go.Proofs.YtgdkimdikalmkaaW.PrintMore
theorem FnStores : laws_FnStores.Pure := by
  intro l0 l1 _ _ hb0 _ _ hb1
  refine Ev.rounds ?_
  unfold laws_FnStores.f laws_f6big.f
  simp only [Option.bind_some]
  by_cases h0 : (l0.length : Int) > 4096
  · refine Ev.congr (f := fun k => laws_FnStores.j0 k l0 l1 true) (fun k => by simp [h0]) (Ev.step (f := fun _ => some true) (fun k => ?_) (Ev.now _))
    simp [laws_FnStores.j0]
  by_cases h1 : (l1.length : Int) > 4096
  · refine Ev.congr (f := fun k => laws_FnStores.j0 k l0 l1 true) (fun k => by simp [h0, h1]) (Ev.step (f := fun _ => some true) (fun k => ?_) (Ev.now _))
    simp [laws_FnStores.j0]
  have n0 : l0.length ≤ 4096 := by omega
  have n1 : l1.length ≤ 4096 := by omega
  obtain ⟨p1, e1, p10, p11⟩ := pick l0 hb0 n0 200 (by omega) (by omega)
  obtain ⟨p2, e2, p20, p21⟩ := pick l1 hb1 n1 100 (by omega) (by omega)
  obtain ⟨p3, e3, p30, p31⟩ := pick l1 hb1 n1 60 (by omega) (by omega)
  obtain ⟨p4, e4, p40, p41⟩ := pick l0 hb0 n0 5 (by omega) (by omega)
  have hw : wrap64 (wrap64 (100 * p1) + p2) = 100 * p1 + p2 := by unfold wrap64; omega
  have hf : Fine (100 * p1 + p2) p3 p4 := ⟨by omega, by omega, by omega, by omega, by omega, by omega⟩
  refine Ev.congr (f := fun k => laws_FnStores.j0 k l0 l1 false) (fun k => by simp [h0, h1]) (Ev.step (fun k => ?_) (law_l0 l1 hb1 n1 hf 13 0 (by omega) (by omega) (100 * p1 + p2) (by simp [dayN])))
  simp only [laws_FnStores.j0, Bool.false_eq_true, if_false]
  rw [e1, e2, e3, e4]
  simp only [Option.bind_some, hw]
  rfl
end Go.Proofs.Ytgdkimdikalmkaa.Pure
