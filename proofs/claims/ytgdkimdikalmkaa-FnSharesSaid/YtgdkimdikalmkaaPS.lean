/- Sorting by merging in place: what is moved where, as plain functions. No program. No condition but those that each theorem names. -/
import Derived.Test.YtgdkimdikalmkaaK0
namespace Go.Proofs.Ytgdkimdikalmkaa.SM
set_option linter.unusedVariables false

def bef (r : Nat → Int) (x y : Nat) : Prop := r x > r y ∨ (r x = r y ∧ x < y)
theorem bef_trans {r : Nat → Int} {x y z : Nat} (h1 : bef r x y) (h2 : bef r y z) : bef r x z := by unfold bef at *; omega
def swp (D : Nat → Nat) (i j : Nat) : Nat → Nat := fun k => if k = i then D j else if k = j then D i else D k
/-- What moves only what lies between a and b. -/
structure PO (s : Nat → Nat) (a b : Nat) : Prop where
  out : ∀ i, ¬ (a ≤ i ∧ i < b) → s i = i
  ins : ∀ i, a ≤ i → i < b → a ≤ s i ∧ s i < b
  inj : ∀ i j, s i = s j → i = j
  sur : ∀ i, ∃ j, s j = i
def Sim (D' D : Nat → Nat) (a b : Nat) : Prop := ∃ s, PO s a b ∧ ∀ i, D' i = D (s i)
theorem Sim.refl (D : Nat → Nat) (a b : Nat) : Sim D D a b := ⟨id, ⟨fun _ _ => rfl, fun i h1 h2 => ⟨h1, h2⟩, fun _ _ h => h, fun i => ⟨i, rfl⟩⟩, fun _ => rfl⟩
theorem Sim.trans {D1 D2 D3 : Nat → Nat} {a b : Nat} (h1 : Sim D2 D1 a b) (h2 : Sim D3 D2 a b) : Sim D3 D1 a b := by
  obtain ⟨s, hs, e1⟩ := h1
  obtain ⟨t, ht, e2⟩ := h2
  refine ⟨fun i => s (t i), ⟨fun i hi => ?_, fun i h1 h2 => ?_, fun i j h => ht.inj _ _ (hs.inj _ _ h), fun i => ?_⟩, fun i => by rw [e2, e1]⟩
  · show s (t i) = i
    rw [ht.out i hi, hs.out i hi]
  · obtain ⟨h3, h4⟩ := ht.ins i h1 h2
    exact hs.ins _ h3 h4
  · obtain ⟨j, hj⟩ := hs.sur i
    obtain ⟨k, hk⟩ := ht.sur j
    exact ⟨k, by show s (t k) = i; rw [hk, hj]⟩
theorem Sim.mono {D' D : Nat → Nat} {a b a' b' : Nat} (h : Sim D' D a b) (ha : a' ≤ a) (hb : b ≤ b') : Sim D' D a' b' := by
  obtain ⟨s, hs, e⟩ := h
  refine ⟨s, ⟨fun i hi => hs.out i (fun h => hi ⟨by omega, by omega⟩), fun i h1 h2 => ?_, hs.inj, hs.sur⟩, e⟩
  by_cases hi : a ≤ i ∧ i < b
  · have := hs.ins i hi.1 hi.2
    omega
  · rw [hs.out i hi]
    omega
theorem Sim.swp (D : Nat → Nat) {a b i j : Nat} (h1 : a ≤ i) (h2 : i < b) (h3 : a ≤ j) (h4 : j < b) : Sim (swp D i j) D a b := by
  refine ⟨fun k => if k = i then j else if k = j then i else k, ⟨fun k hk => ?_, fun k h5 h6 => ?_, fun k l h => ?_, fun k => ?_⟩, fun k => ?_⟩
  · show (if k = i then j else if k = j then i else k) = k
    split
    · omega
    · split
      · omega
      · rfl
  · show a ≤ (if k = i then j else if k = j then i else k) ∧ (if k = i then j else if k = j then i else k) < b
    split
    · omega
    · split <;> omega
  · have inv : ∀ k, (fun k => if k = i then j else if k = j then i else k) ((fun k => if k = i then j else if k = j then i else k) k) = k := fun k => by
      try dsimp only
      repeat' split
      all_goals omega
    rw [← inv k, ← inv l]
    exact congrArg (fun k => if k = i then j else if k = j then i else k) h
  · refine ⟨if k = i then j else if k = j then i else k, ?_⟩
    show (if (if k = i then j else if k = j then i else k) = i then j else if (if k = i then j else if k = j then i else k) = j then i else (if k = i then j else if k = j then i else k)) = k
    repeat' split
    all_goals omega
  · show SM.swp D i j k = D (if k = i then j else if k = j then i else k)
    unfold SM.swp
    split
    · rfl
    · split <;> rfl
theorem Sim.from {D' D : Nat → Nat} {a b : Nat} (h : Sim D' D a b) : ∀ i, a ≤ i → i < b → ∃ j, a ≤ j ∧ j < b ∧ D' i = D j := by
  obtain ⟨s, hs, e⟩ := h
  intro i h1 h2
  have := hs.ins i h1 h2
  exact ⟨s i, this.1, this.2, e i⟩
theorem Sim.out {D' D : Nat → Nat} {a b : Nat} (h : Sim D' D a b) : ∀ i, ¬ (a ≤ i ∧ i < b) → D' i = D i := by
  obtain ⟨s, hs, e⟩ := h
  intro i hi
  rw [e, hs.out i hi]
theorem Sim.onto {D : Nat → Nat} {n : Nat} (h : Sim D id 0 n) : (∀ i, i < n → ∃ j, j < n ∧ D j = i) ∧ (∀ i j, D i = D j → i = j) ∧ (∀ i, i < n → D i < n) := by
  obtain ⟨s, hs, e⟩ := h
  refine ⟨fun i hi => ?_, fun i j h => hs.inj i j (by have h1 := e i; have h2 := e j; simp only [id] at h1 h2; omega), fun i hi => by have h1 := e i; have h2 := hs.ins i (Nat.zero_le _) hi; simp only [id] at h1; omega⟩
  obtain ⟨j, hj⟩ := hs.sur i
  refine ⟨j, ?_, by rw [e]; exact hj⟩
  rcases Nat.lt_or_ge j n with h1 | h1
  · exact h1
  · have := hs.out j (by omega)
    omega
def Srt (r : Nat → Int) (D : Nat → Nat) (a b : Nat) : Prop := ∀ i j, a ≤ i → i < j → j < b → bef r (D i) (D j)
def Stb (r : Nat → Int) (D : Nat → Nat) (n : Nat) : Prop := ∀ i j, i < j → j < n → r (D i) = r (D j) → D i < D j
theorem Srt.sub {r : Nat → Int} {D : Nat → Nat} {a b a' b' : Nat} (h : Srt r D a b) (ha : a ≤ a') (hb : b' ≤ b) : Srt r D a' b' := fun i j h1 h2 h3 => h i j (by omega) h2 (by omega)
theorem Srt.same {r : Nat → Int} {D D' : Nat → Nat} {a b : Nat} (h : Srt r D a b) (e : ∀ i, a ≤ i → i < b → D' i = D i) : Srt r D' a b := fun i j h1 h2 h3 => by
  rw [e i h1 (by omega), e j (by omega) h3]
  exact h i j h1 h2 h3
theorem Stb.sim {r : Nat → Int} {D D' : Nat → Nat} {a b n : Nat} (h : Stb r D n) (hs : Sim D' D a b) (hr : Srt r D' a b) (hb : b ≤ n) : Stb r D' n := fun i j hij hj he => by
  by_cases h1 : a ≤ i ∧ i < b
  · by_cases h2 : a ≤ j ∧ j < b
    · have := hr i j h1.1 hij h2.2
      unfold bef at this
      omega
    · obtain ⟨k, k1, k2, e⟩ := hs.from i h1.1 h1.2
      rw [hs.out j h2, e] at he ⊢
      exact h k j (by omega) hj he
  · by_cases h2 : a ≤ j ∧ j < b
    · obtain ⟨k, k1, k2, e⟩ := hs.from j h2.1 h2.2
      rw [hs.out i h1, e] at he ⊢
      exact h i k (by omega) (by omega) he
    · rw [hs.out i h1, hs.out j h2] at he ⊢
      exact h i j hij hj he
/-- Two sorted halves, all of the first ahead of all of the second. -/
theorem Srt.join {r : Nat → Int} {D : Nat → Nat} {a m b : Nat} (h1 : Srt r D a m) (h2 : Srt r D m b) (h : ∀ i j, a ≤ i → i < m → m ≤ j → j < b → bef r (D i) (D j)) : Srt r D a b := fun i j ha hij hb => by
  by_cases hi : i < m
  · by_cases hj : j < m
    · exact h1 i j ha hij hj
    · exact h i j ha hi (by omega) hb
  · exact h2 i j (by omega) hij hb

/-! ### Ranges exchanged, ranges turned about -/
def swR (D : Nat → Nat) (a b k : Nat) : Nat → Nat := fun i => if a ≤ i ∧ i < a + k then D (i - a + b) else if b ≤ i ∧ i < b + k then D (i - b + a) else D i
theorem swR_zero (D : Nat → Nat) (a b : Nat) : swR D a b 0 = D := by
  funext i
  unfold swR
  rw [if_neg (by omega), if_neg (by omega)]
theorem swR_succ (D : Nat → Nat) {a b k : Nat} (h : a + k < b) : swR D a b (k + 1) = swp (swR D a b k) (a + k) (b + k) := by
  funext i
  unfold swR swp
  try dsimp only
  repeat' split
  all_goals first
    | (exfalso; omega)
    | (congr 1; omega)
    | rfl
def rot (D : Nat → Nat) (a m b : Nat) : Nat → Nat := fun i => if a ≤ i ∧ i < a + (b - m) then D (i - a + m) else if a + (b - m) ≤ i ∧ i < b then D (i - (b - m)) else D i
theorem rot_same (D : Nat → Nat) {m i : Nat} (hi : i ≤ m) : swR D (m - i) m i = rot D (m - i) m (m + i) := by
  funext k
  unfold swR rot
  repeat' split
  all_goals first
    | (exfalso; omega)
    | (congr 1; omega)
    | rfl
theorem rot_left (D : Nat → Nat) {m i j : Nat} (hi : i ≤ m) (h : j < i) : rot (swR D (m - i) m j) (m - (i - j)) m (m + j) = rot D (m - i) m (m + j) := by
  funext k
  unfold rot swR
  try dsimp only
  repeat' split
  all_goals first
    | (exfalso; omega)
    | (congr 1; omega)
    | rfl
theorem rot_right (D : Nat → Nat) {m i j : Nat} (hi : i ≤ m) (h : i < j) : rot (swR D (m - i) (m + j - i) i) (m - i) m (m + (j - i)) = rot D (m - i) m (m + j) := by
  funext k
  unfold rot swR
  try dsimp only
  repeat' split
  all_goals first
    | (exfalso; omega)
    | (congr 1; omega)
    | rfl
theorem Sim.rot (D : Nat → Nat) {a m b : Nat} (h1 : a ≤ m) (h2 : m ≤ b) : Sim (rot D a m b) D a b := by
  refine ⟨fun i => if a ≤ i ∧ i < a + (b - m) then i - a + m else if a + (b - m) ≤ i ∧ i < b then i - (b - m) else i, ⟨fun k hk => ?_, fun k h5 h6 => ?_, fun k l h => ?_, fun k => ?_⟩, fun k => ?_⟩
  · (try dsimp only)
    rw [if_neg (by omega), if_neg (by omega)]
  · (try dsimp only)
    repeat' split
    all_goals omega
  · try dsimp only at h
    repeat' split at h
    all_goals omega
  · refine ⟨if a ≤ k ∧ k < m then k + (b - m) else if m ≤ k ∧ k < b then k - m + a else k, ?_⟩
    try dsimp only
    repeat' split
    all_goals omega
  · unfold SM.rot
    try dsimp only
    repeat' split
    all_goals rfl

/-! ### One put among the others -/
/-- The first of a range put ahead of place i. -/
def shL (D : Nat → Nat) (a i : Nat) : Nat → Nat := fun k => if a ≤ k ∧ k < i then D (k + 1) else if k = i then D a else D k
theorem shL_zero (D : Nat → Nat) (a : Nat) : shL D a a = D := by
  funext k
  unfold shL
  repeat' split
  all_goals first
    | (exfalso; omega)
    | (congr 1; omega)
    | rfl
theorem shL_succ (D : Nat → Nat) {a i : Nat} (h : a ≤ i) : shL D a (i + 1) = swp (shL D a i) i (i + 1) := by
  funext k
  unfold shL swp
  try dsimp only
  repeat' split
  all_goals first
    | (exfalso; omega)
    | (congr 1; omega)
    | rfl
/-- The last of a range put behind, at place i. -/
def shR (D : Nat → Nat) (m i : Nat) : Nat → Nat := fun k => if i < k ∧ k ≤ m then D (k - 1) else if k = i then D m else D k
theorem shR_zero (D : Nat → Nat) (m : Nat) : shR D m m = D := by
  funext k
  unfold shR
  repeat' split
  all_goals first
    | (exfalso; omega)
    | (congr 1; omega)
    | rfl
theorem shR_succ (D : Nat → Nat) {m i : Nat} (h : i < m) : shR D m i = swp (shR D m (i + 1)) (i + 1) i := by
  funext k
  unfold shR swp
  try dsimp only
  repeat' split
  all_goals first
    | (exfalso; omega)
    | (congr 1; omega)
    | rfl
theorem Sim.shL (D : Nat → Nat) {a b : Nat} : ∀ i, a ≤ i → i < b → Sim (shL D a i) D a b
  | 0, h1, h2 => by
    obtain rfl : a = 0 := by omega
    rw [shL_zero]
    exact Sim.refl _ _ _
  | i + 1, h1, h2 => by
    by_cases e : a = i + 1
    · subst e
      rw [shL_zero]
      exact Sim.refl _ _ _
    · rw [shL_succ D (by omega)]
      exact (Sim.shL D i (by omega) (by omega)).trans (Sim.swp _ (by omega) (by omega) (by omega) (by omega))
theorem Sim.shR (D : Nat → Nat) {a b m : Nat} (hm : m < b) : ∀ d i, i + d = m → a ≤ i → Sim (shR D m i) D a b
  | 0, i, h1, h2 => by
    obtain rfl : i = m := by omega
    rw [shR_zero]
    exact Sim.refl _ _ _
  | d + 1, i, h1, h2 => by
    rw [shR_succ D (by omega)]
    exact (Sim.shR D hm d (i + 1) (by omega) (by omega)).trans (Sim.swp _ (by omega) (by omega) (by omega) (by omega))
/-- The first put to its place among the sorted others. -/
theorem Srt.shL {r : Nat → Int} {D : Nat → Nat} {a b i : Nat} (hai : a + 1 ≤ i) (hib : i ≤ b) (hs : Srt r D (a + 1) b) (hst : ∀ j, a < j → j < b → r (D a) = r (D j) → D a < D j)
    (h1 : ∀ k, a < k → k < i → r (D k) > r (D a)) (h2 : ∀ k, i ≤ k → k < b → r (D k) ≤ r (D a)) : Srt r (shL D a (i - 1)) a b := fun p q hp hpq hq => by
  unfold SM.shL
  repeat' split
  all_goals first
    | (exfalso; omega)
    | exact hs _ _ (by omega) (by omega) (by omega)
    | (have := h1 (p + 1) (by omega) (by omega); unfold bef; omega)
    | (have := h2 q (by omega) (by omega); have := hst q (by omega) (by omega); unfold bef; omega)
    | (have := h1 q (by omega) (by omega); unfold bef; omega)
    | skip
/-- The last put to its place among the sorted others. -/
theorem Srt.shR {r : Nat → Int} {D : Nat → Nat} {a m i : Nat} (hai : a ≤ i) (him : i ≤ m) (hs : Srt r D a m) (hst : ∀ j, a ≤ j → j < m → r (D j) = r (D m) → D j < D m)
    (h1 : ∀ k, a ≤ k → k < i → r (D k) ≥ r (D m)) (h2 : ∀ k, i ≤ k → k < m → r (D k) < r (D m)) : Srt r (shR D m i) a (m + 1) := fun p q hp hpq hq => by
  unfold SM.shR
  repeat' split
  all_goals first
    | (exfalso; omega)
    | exact hs _ _ (by omega) (by omega) (by omega)
    | (have := h1 p (by omega) (by omega); have := hst p (by omega) (by omega); unfold bef; omega)
    | (have := h2 (q - 1) (by omega) (by omega); unfold bef; omega)
    | skip

theorem Srt.mono {r : Nat → Int} {D : Nat → Nat} {a b i j : Nat} (h : Srt r D a b) (h1 : a ≤ i) (h2 : i ≤ j) (h3 : j < b) : r (D i) ≥ r (D j) := by
  by_cases e : i = j
  · rw [e]
    exact Int.le_refl _
  · have := h i j h1 (by omega) h3
    unfold bef at this
    omega
def Crs (r : Nat → Int) (D : Nat → Nat) (a m b : Nat) : Prop := ∀ i j, a ≤ i → i < m → m ≤ j → j < b → r (D i) = r (D j) → D i < D j
theorem Crs.bef {r : Nat → Int} {D : Nat → Nat} {a m b i j : Nat} (h : Crs r D a m b) (h1 : a ≤ i) (h2 : i < m) (h3 : m ≤ j) (h4 : j < b) (hr : r (D i) ≥ r (D j)) : bef r (D i) (D j) := by
  have := h i j h1 h2 h3 h4
  unfold SM.bef
  omega
/-- Behind the search: what is turned about, and what follows. -/
structure Cut (r : Nat → Int) (D1 : Nat → Nat) (a s mid e b : Nat) : Prop where
  s1 : Srt r D1 a s
  s2 : Srt r D1 s mid
  s3 : Srt r D1 mid e
  s4 : Srt r D1 e b
  c1 : Crs r D1 a s mid
  c2 : Crs r D1 mid e b
  all : ∀ i j, a ≤ i → i < mid → mid ≤ j → j < b → bef r (D1 i) (D1 j)
theorem cut {r : Nat → Int} {D : Nat → Nat} {a m b mid s0 r0 s : Nat} (ham : a < m) (hmb : m < b) (hm : mid = (a + b) / 2) (h1 : Srt r D a m) (h2 : Srt r D m b) (hc : Crs r D a m b)
    (h0 : (mid < m ∧ s0 = mid + m - b ∧ r0 = mid) ∨ (m ≤ mid ∧ s0 = a ∧ r0 = m)) (hs1 : s0 ≤ s) (hs2 : s ≤ r0)
    (hlo : ∀ c, s0 ≤ c → c < s → r (D c) ≥ r (D (mid + m - 1 - c))) (hhi : ∀ c, s ≤ c → c < r0 → r (D (mid + m - 1 - c)) > r (D c)) :
    a ≤ s ∧ s ≤ m ∧ m ≤ mid + m - s ∧ mid + m - s ≤ b ∧ s ≤ mid ∧ mid ≤ mid + m - s ∧ Cut r (rot D s m (mid + m - s)) a s mid (mid + m - s) b := by
  have b1 : a ≤ s := by omega
  have b2 : s ≤ m := by omega
  have b3 : m ≤ mid + m - s := by omega
  have b4 : mid + m - s ≤ b := by omega
  have b5 : s ≤ mid := by omega
  have b6 : mid ≤ mid + m - s := by omega
  obtain ⟨e, he⟩ : ∃ e, e = mid + m - s := ⟨_, rfl⟩
  rw [← he] at b3 b4 b6 ⊢
  have r1 : ∀ i, i < s → rot D s m e i = D i := fun i hi => by unfold rot; rw [if_neg (by omega), if_neg (by omega)]
  have r2 : ∀ i, s ≤ i → i < mid → rot D s m e i = D (i - s + m) := fun i h3 h4 => by unfold rot; rw [if_pos (by omega)]
  have r3 : ∀ i, mid ≤ i → i < e → rot D s m e i = D (i - (e - m)) := fun i h3 h4 => by unfold rot; rw [if_neg (by omega), if_pos (by omega)]
  have r4 : ∀ i, e ≤ i → rot D s m e i = D i := fun i h3 => by unfold rot; rw [if_neg (by omega), if_neg (by omega)]
  -- the first part of the left ahead of the last part of the right
  have x1 : ∀ i j, a ≤ i → i < s → e ≤ j → j < b → bef r (D i) (D j) := fun i j h3 h4 h5 h6 => by
    have hs0 : s0 ≤ s - 1 := by omega
    have k1 := hlo (s - 1) hs0 (by omega)
    rw [show mid + m - 1 - (s - 1) = e by omega] at k1
    have k2 := h1.mono h3 (show i ≤ s - 1 by omega) (by omega)
    have k3 := h2.mono (show m ≤ e by omega) h5 h6
    exact hc.bef h3 (by omega) (by omega) h6 (by omega)
  -- the first part of the right ahead of the last part of the left
  have x2 : ∀ i j, m ≤ i → i < e → s ≤ j → j < m → bef r (D i) (D j) := fun i j h3 h4 h5 h6 => by
    have hs0 : s < r0 := by omega
    have k1 := hhi s (Nat.le_refl _) hs0
    rw [show mid + m - 1 - s = e - 1 by omega] at k1
    have k2 := h1.mono b1 h5 h6
    have k3 := h2.mono h3 (show i ≤ e - 1 by omega) (by omega)
    unfold bef
    omega
  refine ⟨b1, b2, b3, b4, b5, b6, ⟨?_, ?_, ?_, ?_, ?_, ?_, ?_⟩⟩
  · intro i j h3 h4 h5
    rw [r1 i (by omega), r1 j h5]
    exact h1 i j h3 h4 (by omega)
  · intro i j h3 h4 h5
    rw [r2 i h3 (by omega), r2 j (by omega) h5]
    exact h2 _ _ (by omega) (by omega) (by omega)
  · intro i j h3 h4 h5
    rw [r3 i h3 (by omega), r3 j (by omega) h5]
    exact h1 _ _ (by omega) (by omega) (by omega)
  · intro i j h3 h4 h5
    rw [r4 i h3, r4 j (by omega)]
    exact h2 i j (by omega) h4 h5
  · intro i j h3 h4 h5 h6 h7
    rw [r1 i h4, r2 j h5 h6] at h7 ⊢
    exact hc i _ h3 (by omega) (by omega) (by omega) h7
  · intro i j h3 h4 h5 h6 h7
    rw [r3 i h3 h4, r4 j h5] at h7 ⊢
    exact hc _ j (by omega) (by omega) (by omega) h6 h7
  · intro i j h3 h4 h5 h6
    by_cases k1 : i < s
    · rw [r1 i k1]
      by_cases k2 : j < e
      · rw [r3 j h5 k2]
        exact h1 _ _ h3 (by omega) (by omega)
      · rw [r4 j (by omega)]
        exact x1 i j h3 k1 (by omega) h6
    · rw [r2 i (by omega) h4]
      by_cases k2 : j < e
      · rw [r3 j h5 k2]
        exact x2 _ _ (by omega) (by omega) (by omega) (by omega)
      · rw [r4 j (by omega)]
        exact h2 _ _ (by omega) (by omega) h6
/-- Both halves merged: the whole is sorted. -/
theorem merged {r : Nat → Int} {D D1 D2 D3 : Nat → Nat} {a s mid e b : Nat} (h : Cut r D1 a s mid e b) (ha : a ≤ mid) (hb : mid ≤ b) (h1 : Sim D1 D a b) (h2 : Sim D2 D1 a mid) (h3 : Srt r D2 a mid) (h4 : Sim D3 D2 mid b) (h5 : Srt r D3 mid b) : Sim D3 D a b ∧ Srt r D3 a b := by
  refine ⟨(h1.trans (h2.mono (Nat.le_refl _) hb)).trans (h4.mono ha (Nat.le_refl _)), Srt.join (fun i j k1 k2 k3 => ?_) h5 (fun i j k1 k2 k3 k4 => ?_)⟩
  · rw [h4.out i (by omega), h4.out j (by omega)]
    exact h3 i j k1 k2 k3
  · rw [h4.out i (by omega)]
    obtain ⟨x, x1, x2, ex⟩ := h2.from i k1 k2
    obtain ⟨y, y1, y2, ey⟩ := h4.from j k3 k4
    rw [ex, ey, h2.out y (by omega)]
    exact h.all x y x1 x2 y1 y2
end Go.Proofs.Ytgdkimdikalmkaa.SM
