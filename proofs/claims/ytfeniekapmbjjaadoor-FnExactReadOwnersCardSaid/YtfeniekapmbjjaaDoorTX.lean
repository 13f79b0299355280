/- Texts of rows of words: joined by blanks, a line each. No program. No condition but those that each theorem names. -/
import Derived.Test.YtfeniekapmbjjaaDoorSPL
namespace Go.Proofs.YtfeniekapmbjjaaDoor
open Go
set_option linter.unusedSimpArgs false
set_option linter.unusedVariables false

def dec (i : Int) : ByteArray := ⟨(Lib.decDigits i.toNat).toArray⟩
def joined (l : List ByteArray) (sep : ByteArray) : ByteArray := ⟨(Lib.join (l.map (·.data.toList)) sep.data.toList).toArray⟩
def emptyB : ByteArray := ⟨#[]⟩
def blankB : ByteArray := ⟨#[32]⟩
def lineB : ByteArray := ⟨#[10]⟩
/-- Words in a row. -/
def rowB (ws : List ByteArray) : ByteArray := joined ws blankB
theorem rowB_nil : rowB [] = emptyB := rfl
theorem rowB_one (x : ByteArray) : rowB [x] = x := by
  refine ba_eq ?_
  show (Lib.join [x.data.toList] [32]).toArray.toList = _
  rw [Lib.join_one]
theorem rowB_snoc {ws : List ByteArray} (h : ws ≠ []) (y : ByteArray) : rowB (ws ++ [y]) = (rowB ws ++ blankB) ++ y := by
  cases ws with
  | nil => exact absurd rfl h
  | cons x xs =>
    refine ba_eq ?_
    unfold rowB joined blankB
    simp only [List.cons_append, List.map_cons, List.map_append, List.map_nil, Lib.join_cons, Lib.joinTail]
    simp
theorem ba_assoc (a b c : ByteArray) : (a ++ b) ++ c = a ++ (b ++ c) := by refine ba_eq ?_; simp
theorem ba_nil (a : ByteArray) : a ++ emptyB = a := by refine ba_eq ?_; simp [emptyB]
theorem nil_ba (a : ByteArray) : emptyB ++ a = a := by refine ba_eq ?_; simp [emptyB]
theorem ba_size (a b : ByteArray) : (a ++ b).size = a.size + b.size := ByteArray.size_append
theorem blank_size : blankB.size = 1 := rfl
theorem line_size : lineB.size = 1 := rfl
theorem empty_size : emptyB.size = 0 := rfl
theorem rowB_size {n : Nat} : ∀ (ws : List ByteArray), (∀ w ∈ ws, w.size ≤ n) → (rowB ws).size ≤ (n + 1) * ws.length
  | [], _ => by rw [rowB_nil, empty_size]; exact Nat.zero_le _
  | x :: xs, h => by
    have key : ∀ m : Nat, m ≤ xs.length → (rowB (x :: xs.take m)).size ≤ (n + 1) * m + n := fun m => by
      induction m with
      | zero =>
        intro _
        rw [List.take_zero, rowB_one]
        have := h x (by simp)
        omega
      | succ m ih =>
        intro hm
        have ih := ih (by omega)
        rw [List.take_succ_eq_append_getElem (by omega), ← List.cons_append, rowB_snoc (by simp), ba_size, ba_size, blank_size]
        have := h xs[m] (by simp)
        rw [Nat.mul_succ]
        omega
    have := key xs.length (Nat.le_refl _)
    rw [List.take_length] at this
    rw [List.length_cons, Nat.mul_succ]
    omega
/-- The words of a row. -/
def wordsOf (f : Nat → ByteArray) (y n : Nat) : List ByteArray := (List.range n).map fun x => f (x + 10 * y)
theorem wordsOf_len (f : Nat → ByteArray) (y n : Nat) : (wordsOf f y n).length = n := by simp [wordsOf]
theorem wordsOf_succ (f : Nat → ByteArray) (y n : Nat) : wordsOf f y (n + 1) = wordsOf f y n ++ [f (n + 10 * y)] := by simp [wordsOf, List.range_succ]
theorem wordsOf_size {f : Nat → ByteArray} {c : Nat} (hf : ∀ i, (f i).size ≤ c) (y n : Nat) : (rowB (wordsOf f y n)).size ≤ (c + 1) * n := by
  have := rowB_size (wordsOf f y n) (n := c) (fun w hw => by
    unfold wordsOf at hw
    obtain ⟨x, -, rfl⟩ := List.mem_map.1 hw
    exact hf _)
  rw [wordsOf_len] at this
  exact this
/-- Rows, a line each. -/
def gridB (f : Nat → ByteArray) (wide : Nat) : Nat → ByteArray
  | 0 => emptyB
  | y + 1 => (gridB f wide y ++ rowB (wordsOf f y wide)) ++ lineB
theorem gridB_size {f : Nat → ByteArray} {c wide : Nat} (hf : ∀ i, (f i).size ≤ c) : ∀ y, (gridB f wide y).size ≤ ((c + 1) * wide + 1) * y
  | 0 => by show emptyB.size ≤ _; rw [empty_size]; exact Nat.zero_le _
  | y + 1 => by
    have ih := gridB_size (wide := wide) hf y
    have hr := wordsOf_size hf y wide
    show ((gridB f wide y ++ rowB (wordsOf f y wide)) ++ lineB).size ≤ _
    rw [ba_size, ba_size, line_size, Nat.mul_succ]
    omega
theorem gridB_small {f : Nat → ByteArray} {wide y : Nat} (hf : ∀ i, (f i).size ≤ 4) (hw : wide ≤ 10) (hy : y ≤ 10) : (gridB f wide y).size ≤ 510 := by
  have h := gridB_size (wide := wide) hf y
  have h1 : (4 + 1) * wide + 1 ≤ 51 := by omega
  have h2 : ((4 + 1) * wide + 1) * y ≤ 51 * 10 := Nat.mul_le_mul h1 hy
  omega
/-- A row's words so far, behind the rows before. -/
def partB (f : Nat → ByteArray) (wide y x : Nat) : ByteArray := gridB f wide y ++ rowB (wordsOf f y x)
theorem partB_zero (f : Nat → ByteArray) (wide y : Nat) : partB f wide y 0 = gridB f wide y := by
  unfold partB
  have e : wordsOf f y 0 = [] := rfl
  rw [e, rowB_nil, ba_nil]
theorem partB_one (f : Nat → ByteArray) (wide y : Nat) : partB f wide y 1 = partB f wide y 0 ++ f (0 + 10 * y) := by
  rw [partB_zero]
  unfold partB
  rw [wordsOf_succ]
  have e : wordsOf f y 0 = [] := rfl
  rw [e, List.nil_append, rowB_one]
theorem partB_succ (f : Nat → ByteArray) (wide y : Nat) {x : Nat} (h : 0 < x) : partB f wide y (x + 1) = (partB f wide y x ++ blankB) ++ f (x + 10 * y) := by
  have hne : wordsOf f y x ≠ [] := fun e => by have := wordsOf_len f y x; rw [e] at this; simp at this; omega
  unfold partB
  rw [wordsOf_succ, rowB_snoc hne, ba_assoc, ba_assoc, ba_assoc]
theorem partB_full (f : Nat → ByteArray) (wide y : Nat) : partB f wide y wide ++ lineB = gridB f wide (y + 1) := rfl
theorem partB_small {f : Nat → ByteArray} {wide y x : Nat} (hf : ∀ i, (f i).size ≤ 4) (hw : wide ≤ 10) (hy : y ≤ 10) (hx : x ≤ 10) : (partB f wide y x).size ≤ 560 := by
  have h := gridB_small hf hw hy
  have h1 := wordsOf_size hf y x
  unfold partB
  rw [ba_size]
  have : (4 + 1) * x ≤ 50 := by omega
  omega
theorem dec_len (v : Nat) (h : v ≤ 9999) : (Lib.decDigits v).length ≤ 4 := by
  obtain ⟨d1, d2, d3, d4⟩ := dec_spells v
  rcases Nat.lt_or_ge 4 (Lib.decDigits v).length with h4 | h4
  · exfalso
    cases hd : Lib.decDigits v with
    | nil => exact absurd hd d3
    | cons c r =>
      have hc := d4 (by omega) c r hd
      have hg := val_ge r (0 * 10 + (c.toNat - 48))
      rw [hd] at d1 d2 h4
      simp only [List.all_cons, Bool.and_eq_true] at d1
      have hc2 := d1.1
      unfold isDig at hc2
      simp only [Bool.and_eq_true, decide_eq_true_eq] at hc2
      rw [val_cons] at d2
      have hp : 10 ^ 4 ≤ 10 ^ r.length := Nat.pow_le_pow_right (by omega) (by simp at h4; omega)
      have h3 : 1 * 10 ^ r.length ≤ (0 * 10 + (c.toNat - 48)) * 10 ^ r.length := Nat.mul_le_mul_right _ (by omega)
      omega
  · exact h4
theorem dec_four (v : Int) (h : v ≤ 9999) : (dec v).size ≤ 4 := by
  show (Lib.decDigits v.toNat).toArray.size ≤ 4
  simp only [List.size_toArray]
  exact dec_len _ (by omega)
end Go.Proofs.YtfeniekapmbjjaaDoor
