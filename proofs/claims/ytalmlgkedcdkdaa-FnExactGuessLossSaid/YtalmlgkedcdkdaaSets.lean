/- Sets of numbers as two words of bits: what is in one of two sets; what is cut off. No program. No condition but those that each theorem names. -/
import Derived.Test.YtalmlgkedcdkdaaGC
namespace Go.Proofs.Ytalmlgkedcdkdaa
open Go.RowKit
set_option linter.unusedSimpArgs false
set_option linter.unusedVariables false

theorem wrap_u64 (n : Int) : IntKind.u64.wrap n = n % 18446744073709551616 := by simp [IntKind.wrap, IntKind.bits, IntKind.signed]
theorem wrap_bv (x : BitVec 64) : IntKind.u64.wrap (x.toNat : Int) = (x.toNat : Int) := by
  rw [wrap_u64]
  have := x.isLt
  omega
/-- A word as bits. -/
def bv (x : Int) : BitVec 64 := BitVec.ofInt 64 x
theorem bv_nat (x : BitVec 64) : bv (x.toNat : Int) = x := by
  unfold bv
  rw [BitVec.ofInt_natCast]
  simp
theorem or_bv (x y : Int) : bits .or .u64 x y = ((bv x ||| bv y).toNat : Int) := wrap_bv (bv x ||| bv y)
theorem and_bv (x y : Int) : bits .and .u64 x y = ((bv x &&& bv y).toNat : Int) := wrap_bv (bv x &&& bv y)
theorem bv_or (x y : Int) : bv (bits .or .u64 x y) = bv x ||| bv y := by rw [or_bv, bv_nat]
theorem bv_and (x y : Int) : bv (bits .and .u64 x y) = bv x &&& bv y := by rw [and_bv, bv_nat]

/-- A set as two words of bits. -/
def bvs (U : List Int) : BitVec 64 × BitVec 64 := (bv (nth U 0), bv (nth U 1))
/-- The words are within their kind. -/
def Wd (U : List Int) : Prop := U = [((bv (nth U 0)).toNat : Int), ((bv (nth U 1)).toNat : Int)]
theorem Wd.eq {U V : List Int} (hU : Wd U) (hV : Wd V) (h : bvs U = bvs V) : U = V := by
  rw [hU, hV]
  unfold bvs at h
  injection h with h1 h2
  rw [h1, h2]
/-- The numbers below n of which p holds, as bits. -/
def wordTo (p : Nat → Bool) : Nat → BitVec 64 × BitVec 64
  | 0 => (0, 0)
  | i + 1 => if p i = true then (if i / 64 = 0 then ((wordTo p i).1 ||| BitVec.ofNat 64 (2 ^ (i % 64)), (wordTo p i).2) else ((wordTo p i).1, (wordTo p i).2 ||| BitVec.ofNat 64 (2 ^ (i % 64)))) else wordTo p i
theorem bv_pow (n : Nat) : bv (IntKind.u64.wrap ((2 : Int) ^ (n % 64))) = BitVec.ofNat 64 (2 ^ (n % 64)) := by
  have h : (2 : Nat) ^ (n % 64) < 2 ^ 64 := Nat.pow_lt_pow_right (by omega) (Nat.mod_lt _ (by omega))
  have e : ((2 : Int) ^ (n % 64)) = (((2 : Nat) ^ (n % 64) : Nat) : Int) := by simp
  rw [e, wrap_u64]
  have : (((2 : Nat) ^ (n % 64) : Nat) : Int) % 18446744073709551616 = (((2 : Nat) ^ (n % 64) : Nat) : Int) := by
    generalize (2 : Nat) ^ (n % 64) = z at *
    omega
  rw [this]
  unfold bv
  rw [BitVec.ofInt_natCast]
theorem setTo_two (p : Nat → Bool) (n : Nat) : setTo p n = [nth (setTo p n) 0, nth (setTo p n) 1] := by
  have := setTo_len p n
  match h : setTo p n, this with
  | [a, b], _ => rfl
theorem setTo_wd (p : Nat → Bool) : ∀ n, n ≤ 100 → Wd (setTo p n) ∧ bvs (setTo p n) = wordTo p n
  | 0, _ => ⟨by show ([0, 0] : List Int) = [((bv 0).toNat : Int), ((bv 0).toNat : Int)]; decide, by show (bv 0, bv 0) = (0, 0); decide⟩
  | n + 1, h => by
    obtain ⟨h1, h2⟩ := setTo_wd p n (by omega)
    cases hp : p n
    · have e : setTo p (n + 1) = setTo p n := by simp [setTo, hp]
      have e2 : wordTo p (n + 1) = wordTo p n := by simp [wordTo, hp]
      rw [e, e2]
      exact ⟨h1, h2⟩
    · have e : setTo p (n + 1) = putN (setTo p n) n := by simp [setTo, hp]
      rw [e]
      have e2 : wordTo p (n + 1) = (if n / 64 = 0 then ((wordTo p n).1 ||| BitVec.ofNat 64 (2 ^ (n % 64)), (wordTo p n).2) else ((wordTo p n).1, (wordTo p n).2 ||| BitVec.ofNat 64 (2 ^ (n % 64)))) := by simp [wordTo, hp]
      rw [e2, ← h2]
      have hs := setTo_two p n
      unfold Wd at h1
      generalize setTo p n = U at *
      generalize hx : nth U 0 = x at *
      generalize hy : nth U 1 = y at *
      subst hs
      injection h1 with h3 h4
      injection h4 with h4 _
      rcases Nat.lt_or_ge n 64 with hn | hn
      · have e0 : n / 64 = 0 := by omega
        have e1 : putN [x, y] n = [bits .or .u64 x (IntKind.u64.wrap (2 ^ (n % 64))), y] := by unfold putN; rw [e0]; rfl
        rw [e1, if_pos e0]
        refine ⟨?_, ?_⟩
        · unfold Wd
          show [_, _] = [((bv (bits .or .u64 x (IntKind.u64.wrap (2 ^ (n % 64))))).toNat : Int), ((bv y).toNat : Int)]
          rw [bv_or, ← h4, or_bv]
        · show (bv (bits .or .u64 x (IntKind.u64.wrap (2 ^ (n % 64)))), bv y) = _
          rw [bv_or, bv_pow]
          rfl
      · have e0 : n / 64 = 1 := by omega
        have e1 : putN [x, y] n = [x, bits .or .u64 y (IntKind.u64.wrap (2 ^ (n % 64)))] := by unfold putN; rw [e0]; rfl
        rw [e1, if_neg (by omega)]
        refine ⟨?_, ?_⟩
        · unfold Wd
          show [_, _] = [((bv x).toNat : Int), ((bv (bits .or .u64 y (IntKind.u64.wrap (2 ^ (n % 64))))).toNat : Int)]
          rw [bv_or, ← h3, or_bv]
        · show (bv x, bv (bits .or .u64 y (IntKind.u64.wrap (2 ^ (n % 64))))) = _
          rw [bv_or, bv_pow]
          rfl
theorem or_a (x y b : BitVec 64) : (x ||| b) ||| (y ||| b) = (x ||| y) ||| b := by
  ext i hi
  simp only [BitVec.getElem_or]
  cases x[i] <;> cases y[i] <;> cases b[i] <;> rfl
theorem or_b (x y b : BitVec 64) : (x ||| b) ||| y = (x ||| y) ||| b := by
  ext i hi
  simp only [BitVec.getElem_or]
  cases x[i] <;> cases y[i] <;> cases b[i] <;> rfl
theorem or_c (x y b : BitVec 64) : x ||| (y ||| b) = (x ||| y) ||| b := by
  ext i hi
  simp only [BitVec.getElem_or]
  cases x[i] <;> cases y[i] <;> cases b[i] <;> rfl
theorem or_d (x y b : BitVec 64) : x ||| b ||| b ||| y = x ||| b ||| y := by
  ext i hi
  simp only [BitVec.getElem_or]
  cases x[i] <;> cases y[i] <;> cases b[i] <;> rfl
def orW (x y : BitVec 64 × BitVec 64) : BitVec 64 × BitVec 64 := (x.1 ||| y.1, x.2 ||| y.2)
/-- What is in one of two sets. -/
theorem word_or (p q : Nat → Bool) : ∀ n, orW (wordTo p n) (wordTo q n) = wordTo (fun i => p i || q i) n
  | 0 => by show (0#64 ||| 0#64, 0#64 ||| 0#64) = (0#64, 0#64); decide
  | n + 1 => by
    have ih := word_or p q n
    simp only [wordTo]
    rw [← ih]
    generalize BitVec.ofNat 64 (2 ^ (n % 64)) = b
    generalize wordTo p n = x
    generalize wordTo q n = y
    obtain ⟨x1, x2⟩ := x
    obtain ⟨y1, y2⟩ := y
    by_cases hp : p n = true <;> by_cases hq : q n = true <;> by_cases h : n / 64 = 0 <;> simp only [hp, hq, h, orW, or_a, or_b, or_c, Bool.or_true, Bool.or_false, Bool.true_or, Bool.false_or, if_true, if_false, Bool.not_eq_true, Bool.false_eq_true] <;> simp_all <;> rw [or_d]
/-- No number from 100 on. -/
theorem word_cut (p : Nat → Bool) : ∀ n, n ≤ 100 → (wordTo p n).2 &&& 68719476735#64 = (wordTo p n).2
  | 0, _ => by show 0#64 &&& 68719476735#64 = 0#64; decide
  | n + 1, h => by
    have ih := word_cut p n (by omega)
    simp only [wordTo]
    split
    · split
      · exact ih
      · simp only
        have hb : BitVec.ofNat 64 (2 ^ (n % 64)) &&& 68719476735#64 = BitVec.ofNat 64 (2 ^ (n % 64)) := by
          have : n % 64 < 36 := by omega
          generalize n % 64 = m at *
          have key : ∀ m : Fin 36, BitVec.ofNat 64 (2 ^ m.val) &&& 68719476735#64 = BitVec.ofNat 64 (2 ^ m.val) := by decide
          exact key ⟨m, this⟩
        rw [BitVec.and_or_distrib_right, ih, hb]
    · exact ih
end Go.Proofs.Ytalmlgkedcdkdaa
