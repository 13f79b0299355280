/- Sets of numbers, number by number: what a set has, what is in two sets, what is put into a set. No program. No condition but those that each theorem names. -/
import Derived.Test.YtalmlgkedcdkdaaSets
namespace Go.Proofs.Ytalmlgkedcdkdaa
open Go.RowKit
set_option linter.unusedSimpArgs false
set_option linter.unusedVariables false

theorem pow_bit {i j : Nat} (hi : i < 64) (hj : j < 64) : (BitVec.ofNat 64 (2 ^ i)).getLsbD j = decide (j = i) := by
  rw [BitVec.getLsbD_ofNat, Nat.testBit_two_pow]
  simp [hj, eq_comm]
theorem wordTo_1 (p : Nat → Bool) : ∀ n j, j < 64 → (wordTo p n).1.getLsbD j = (decide (j < n) && p j)
  | 0, j, _ => by simp [wordTo]
  | n + 1, j, hj => by
    have ih := wordTo_1 p n j hj
    cases hp : p n
    · have e : wordTo p (n + 1) = wordTo p n := by simp [wordTo, hp]
      rw [e, ih]
      by_cases h : j = n
      · subst h; simp [hp]
      · have : decide (j < n + 1) = decide (j < n) := by rw [decide_eq_decide]; omega
        rw [this]
    · by_cases h64 : n / 64 = 0
      · have e : wordTo p (n + 1) = ((wordTo p n).1 ||| BitVec.ofNat 64 (2 ^ (n % 64)), (wordTo p n).2) := by simp [wordTo, hp, h64]
        rw [e]
        simp only [BitVec.getLsbD_or, ih]
        rw [pow_bit (Nat.mod_lt _ (by omega)) hj, Nat.mod_eq_of_lt (by omega)]
        by_cases h : j = n
        · subst h; simp [hp]
        · have : decide (j < n + 1) = decide (j < n) := by rw [decide_eq_decide]; omega
          rw [this]; simp [h]
      · have e : wordTo p (n + 1) = ((wordTo p n).1, (wordTo p n).2 ||| BitVec.ofNat 64 (2 ^ (n % 64))) := by simp [wordTo, hp, h64]
        rw [e]
        simp only [ih]
        have : decide (j < n + 1) = decide (j < n) := by rw [decide_eq_decide]; omega
        rw [this]
theorem wordTo_2 (p : Nat → Bool) : ∀ n j, n ≤ 128 → j < 64 → (wordTo p n).2.getLsbD j = (decide (j + 64 < n) && p (j + 64))
  | 0, j, _, _ => by simp [wordTo]
  | n + 1, j, hn, hj => by
    have ih := wordTo_2 p n j (by omega) hj
    cases hp : p n
    · have e : wordTo p (n + 1) = wordTo p n := by simp [wordTo, hp]
      rw [e, ih]
      by_cases h : j + 64 = n
      · subst h; simp [hp]
      · have : decide (j + 64 < n + 1) = decide (j + 64 < n) := by rw [decide_eq_decide]; omega
        rw [this]
    · by_cases h64 : n / 64 = 0
      · have e : wordTo p (n + 1) = ((wordTo p n).1 ||| BitVec.ofNat 64 (2 ^ (n % 64)), (wordTo p n).2) := by simp [wordTo, hp, h64]
        rw [e]
        simp only [ih]
        have : decide (j + 64 < n + 1) = decide (j + 64 < n) := by rw [decide_eq_decide]; omega
        rw [this]
      · have e : wordTo p (n + 1) = ((wordTo p n).1, (wordTo p n).2 ||| BitVec.ofNat 64 (2 ^ (n % 64))) := by simp [wordTo, hp, h64]
        rw [e]
        simp only [BitVec.getLsbD_or, ih]
        rw [pow_bit (Nat.mod_lt _ (by omega)) hj]
        by_cases h : j + 64 = n
        · have h2 : j = n % 64 := by omega
          have h3 : p (j + 64) = true := by rw [h]; exact hp
          rw [h3, decide_eq_true h2, decide_eq_true (show j + 64 < n + 1 by omega)]; simp
        · have h2 : ¬ j = n % 64 := by omega
          have : decide (j + 64 < n + 1) = decide (j + 64 < n) := by rw [decide_eq_decide]; omega
          rw [this]; simp [h2]

/-- A set: two words within their kind. -/
structure ClOk (U : List Int) : Prop where
  len : U.length = 2
  b : ∀ z ∈ U, 0 ≤ z ∧ z ≤ 18446744073709551615
theorem ClOk.two {U : List Int} (h : ClOk U) : ∃ x y, U = [x, y] ∧ 0 ≤ x ∧ x ≤ 18446744073709551615 ∧ 0 ≤ y ∧ y ≤ 18446744073709551615 := by
  have := h.len
  match U, this with
  | [x, y], _ => exact ⟨x, y, rfl, (h.b x (by simp)).1, (h.b x (by simp)).2, (h.b y (by simp)).1, (h.b y (by simp)).2⟩
theorem bv_toNat {x : Int} (h0 : 0 ≤ x) (h1 : x ≤ 18446744073709551615) : ((bv x).toNat : Int) = x := by
  obtain ⟨n, rfl⟩ : ∃ n : Nat, x = (n : Int) := ⟨x.toNat, by omega⟩
  unfold bv
  rw [BitVec.ofInt_natCast, BitVec.toNat_ofNat, Nat.mod_eq_of_lt (by omega)]
theorem ClOk.wd {U : List Int} (h : ClOk U) : Wd U := by
  obtain ⟨x, y, rfl, x0, x1, y0, y1⟩ := h.two
  unfold Wd
  show [x, y] = [((bv x).toNat : Int), ((bv y).toNat : Int)]
  rw [bv_toNat x0 x1, bv_toNat y0 y1]
theorem bv_range (v : BitVec 64) : (0 : Int) ≤ (v.toNat : Int) ∧ (v.toNat : Int) ≤ 18446744073709551615 := by have := v.isLt; omega
theorem setTo_ok (p : Nat → Bool) : ClOk (setTo p 100) := by
  have h := (setTo_wd p 100 (by omega)).1
  refine ⟨setTo_len _ _, fun z hz => ?_⟩
  rw [h] at hz
  rcases List.mem_cons.1 hz with rfl | hz
  · exact bv_range _
  · rw [List.mem_singleton.1 hz]; exact bv_range _

/-- Whether a set has a number below 128. -/
def hasN (U : List Int) (n : Nat) : Bool := (bv (nth U (n / 64))).getLsbD (n % 64)
theorem hasN_lo (x y : Int) {j : Nat} (hj : j < 64) : hasN [x, y] j = (bv x).getLsbD j := by
  unfold hasN
  rw [show j / 64 = 0 by omega, Nat.mod_eq_of_lt hj]
  rfl
theorem hasN_hi (x y : Int) {j : Nat} (hj : j < 64) : hasN [x, y] (j + 64) = (bv y).getLsbD j := by
  unfold hasN
  rw [show (j + 64) / 64 = 1 by omega, show (j + 64) % 64 = j by omega]
  rfl
/-- A set is told by what it has. -/
theorem eq_setTo {U : List Int} (h : ClOk U) (p : Nat → Bool) (h0 : ∀ j, j < 100 → hasN U j = p j) (h1 : ∀ j, 100 ≤ j → j < 128 → hasN U j = false) : U = setTo p 100 := by
  obtain ⟨hw, hs⟩ := setTo_wd p 100 (by omega)
  refine Wd.eq h.wd hw ?_
  rw [hs]
  obtain ⟨x, y, rfl, _⟩ := h.two
  unfold bvs
  show (bv x, bv y) = _
  have e1 : bv x = (wordTo p 100).1 := by
    refine BitVec.eq_of_getLsbD_eq fun j hj => ?_
    rw [wordTo_1 p 100 j hj, ← hasN_lo x y hj, h0 j (by omega), decide_eq_true (by omega : j < 100), Bool.true_and]
  have e2 : bv y = (wordTo p 100).2 := by
    refine BitVec.eq_of_getLsbD_eq fun j hj => ?_
    rw [wordTo_2 p 100 j (by omega) hj, ← hasN_hi x y hj]
    by_cases h : j + 64 < 100
    · rw [h0 _ h, decide_eq_true h, Bool.true_and]
    · rw [h1 _ (by omega) (by omega), decide_eq_false h, Bool.false_and]
  rw [e1, e2]
theorem hasN_setTo (p : Nat → Bool) {j : Nat} (hj : j < 128) : hasN (setTo p 100) j = (decide (j < 100) && p j) := by
  obtain ⟨hw, hs⟩ := setTo_wd p 100 (by omega)
  have h2 := setTo_two p 100
  unfold bvs at hs
  generalize setTo p 100 = U at *
  rw [h2]
  have e1 : bv (nth U 0) = (wordTo p 100).1 := by rw [← hs]
  have e2 : bv (nth U 1) = (wordTo p 100).2 := by rw [← hs]
  rcases Nat.lt_or_ge j 64 with h | h
  · rw [hasN_lo _ _ h, e1, wordTo_1 p 100 j h]
  · obtain ⟨k, rfl⟩ : ∃ k, j = k + 64 := ⟨j - 64, by omega⟩
    rw [hasN_hi _ _ (by omega), e2, wordTo_2 p 100 k (by omega) (by omega)]
/-- A number put into a set. -/
theorem put_setTo (p : Nat → Bool) {n : Nat} (hn : n < 100) : putN (setTo p 100) n = setTo (fun j => p j || decide (j = n)) 100 := by
  have ho := setTo_ok p
  have hh := fun j (hj : j < 128) => hasN_setTo p hj
  generalize setTo p 100 = U at *
  obtain ⟨x, y, rfl, x0, x1, y0, y1⟩ := ho.two
  rcases Nat.lt_or_ge n 64 with h | h
  · have e : putN [x, y] n = [bits .or .u64 x (IntKind.u64.wrap (2 ^ (n % 64))), y] := by unfold putN; rw [show n / 64 = 0 by omega]; rfl
    rw [e]
    refine eq_setTo ⟨rfl, fun z hz => ?_⟩ _ (fun j hj => ?_) (fun j h1 h2 => ?_)
    · rcases List.mem_cons.1 hz with rfl | hz
      · rw [or_bv]; exact bv_range _
      · rw [List.mem_singleton.1 hz]; exact ⟨y0, y1⟩
    · have := hh j (by omega)
      rw [decide_eq_true hj, Bool.true_and] at this
      rw [← this]
      rcases Nat.lt_or_ge j 64 with h' | h'
      · rw [hasN_lo _ _ h', hasN_lo _ _ h', bv_or, bv_pow, BitVec.getLsbD_or, pow_bit (Nat.mod_lt _ (by omega)) h', Nat.mod_eq_of_lt h]
      · obtain ⟨k, rfl⟩ : ∃ k, j = k + 64 := ⟨j - 64, by omega⟩
        rw [hasN_hi _ _ (by omega), hasN_hi _ _ (by omega), decide_eq_false (by omega : ¬ k + 64 = n), Bool.or_false]
    · have := hh j h2
      rw [decide_eq_false (by omega : ¬ j < 100), Bool.false_and] at this
      obtain ⟨k, rfl⟩ : ∃ k, j = k + 64 := ⟨j - 64, by omega⟩
      rw [hasN_hi _ _ (by omega)] at this ⊢
      exact this
  · have e : putN [x, y] n = [x, bits .or .u64 y (IntKind.u64.wrap (2 ^ (n % 64)))] := by unfold putN; rw [show n / 64 = 1 by omega]; rfl
    rw [e]
    refine eq_setTo ⟨rfl, fun z hz => ?_⟩ _ (fun j hj => ?_) (fun j h1 h2 => ?_)
    · rcases List.mem_cons.1 hz with rfl | hz
      · exact ⟨x0, x1⟩
      · rw [List.mem_singleton.1 hz, or_bv]; exact bv_range _
    · have := hh j (by omega)
      rw [decide_eq_true hj, Bool.true_and] at this
      rw [← this]
      rcases Nat.lt_or_ge j 64 with h' | h'
      · rw [hasN_lo _ _ h', hasN_lo _ _ h', decide_eq_false (by omega : ¬ j = n), Bool.or_false]
      · obtain ⟨k, rfl⟩ : ∃ k, j = k + 64 := ⟨j - 64, by omega⟩
        rw [hasN_hi _ _ (by omega), hasN_hi _ _ (by omega), bv_or, bv_pow, BitVec.getLsbD_or, pow_bit (Nat.mod_lt _ (by omega)) (by omega)]
        congr 1
        rw [decide_eq_decide]; omega
    · have := hh j h2
      rw [decide_eq_false (by omega : ¬ j < 100), Bool.false_and] at this
      obtain ⟨k, rfl⟩ : ∃ k, j = k + 64 := ⟨j - 64, by omega⟩
      rw [hasN_hi _ _ (by omega)] at this ⊢
      rw [bv_or, bv_pow, BitVec.getLsbD_or, this, pow_bit (Nat.mod_lt _ (by omega)) (by omega), Bool.false_or]
      rw [decide_eq_false_iff_not]; omega
theorem setTo_none : setTo (fun _ => false) 100 = [0, 0] := by
  have h : ∀ n, setTo (fun _ => false) n = [0, 0] := fun n => by
    induction n with
    | zero => rfl
    | succ n ih => simp [setTo, ih]
  exact h 100
/-- No number from 100 on. -/
theorem mask_bit {k : Nat} (hk : k < 64) : (bv 68719476735).getLsbD k = decide (k < 36) := by
  have : ∀ k : Fin 64, (bv 68719476735).getLsbD k.val = decide (k.val < 36) := by decide
  exact this ⟨k, hk⟩
/-- What is in both of two sets. -/
def bothN (U V : List Int) : List Int := [bits .and .u64 (nth U 0) (nth V 0), bits .and .u64 (bits .and .u64 (nth U 1) (nth V 1)) 68719476735]
theorem both_setTo {U V : List Int} (hU : ClOk U) (hV : ClOk V) : bothN U V = setTo (fun j => hasN U j && hasN V j) 100 := by
  obtain ⟨x, y, rfl, x0, x1, y0, y1⟩ := hU.two
  obtain ⟨a, b, rfl, a0, a1, b0, b1⟩ := hV.two
  refine eq_setTo ⟨rfl, fun z hz => ?_⟩ _ (fun j hj => ?_) (fun j h1 h2 => ?_)
  · unfold bothN at hz
    rcases List.mem_cons.1 hz with rfl | hz
    · rw [and_bv]; exact bv_range _
    · rw [List.mem_singleton.1 hz, and_bv]; exact bv_range _
  · show hasN [bits .and .u64 x a, bits .and .u64 (bits .and .u64 y b) 68719476735] j = _
    rcases Nat.lt_or_ge j 64 with h' | h'
    · rw [hasN_lo _ _ h', hasN_lo _ _ h', hasN_lo _ _ h', bv_and, BitVec.getLsbD_and]
    · obtain ⟨k, rfl⟩ : ∃ k, j = k + 64 := ⟨j - 64, by omega⟩
      rw [hasN_hi _ _ (by omega), hasN_hi _ _ (by omega), hasN_hi _ _ (by omega), bv_and, bv_and, BitVec.getLsbD_and, BitVec.getLsbD_and, mask_bit (by omega), decide_eq_true (by omega : k < 36), Bool.and_true]
  · show hasN [bits .and .u64 x a, bits .and .u64 (bits .and .u64 y b) 68719476735] j = _
    obtain ⟨k, rfl⟩ : ∃ k, j = k + 64 := ⟨j - 64, by omega⟩
    rw [hasN_hi _ _ (by omega), bv_and, BitVec.getLsbD_and, mask_bit (by omega), decide_eq_false (by omega : ¬ k < 36), Bool.and_false]
theorem setTo_empty (p : Nat → Bool) : (setTo p 100 == [0, 0]) = allB 100 (fun j => !p j) := by
  rw [Bool.eq_iff_iff, beq_iff_eq]
  constructor
  · intro h
    refine allB_yes fun j hj => ?_
    have h1 := hasN_setTo p (show j < 128 by omega)
    rw [decide_eq_true hj, Bool.true_and] at h1
    have h2 : hasN (setTo p 100) j = false := by
      rw [h, ← setTo_none, hasN_setTo _ (by omega)]
      simp
    rw [h1] at h2
    rw [h2]; rfl
  · intro h
    rw [← setTo_none]
    refine setTo_same 100 fun j hj => ?_
    have := List.all_eq_true.1 h j (List.mem_range.2 hj)
    simpa using this
end Go.Proofs.Ytalmlgkedcdkdaa
