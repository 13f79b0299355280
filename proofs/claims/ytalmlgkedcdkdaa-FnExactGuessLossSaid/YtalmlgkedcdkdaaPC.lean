/- How many bits a word has, as the program counts them: no walk. No condition but the word's bound. -/
import Derived.Test.YtalmlgkedcdkdaaBits
namespace Go.Proofs.Ytalmlgkedcdkdaa.PC
open Go.RowKit Go.Proofs.Ytalmlgkedcdkdaa
set_option linter.unusedSimpArgs false
set_option linter.unusedVariables false

/-- A mask of n bytes. -/
def mk (c : Nat) : Nat → Nat
  | 0 => 0
  | n + 1 => c + 256 * mk c n
theorem and_split {b c : Nat} (hb : b < 256) (hc : c < 256) (y M : Nat) : (b + 256 * y) &&& (c + 256 * M) = (b &&& c) + 256 * (y &&& M) := by
  have h1 : b &&& c < 2 ^ 8 := Nat.lt_of_le_of_lt Nat.and_le_left hb
  have e : ∀ {d : Nat} (z : Nat), d < 256 → d + 256 * z = 2 ^ 8 * z + d := fun z _ => by omega
  rw [e y hb, e M hc, e (y &&& M) (show b &&& c < 256 from h1)]
  refine Nat.eq_of_testBit_eq fun i => ?_
  rw [Nat.testBit_and, Nat.testBit_two_pow_mul_add _ hb, Nat.testBit_two_pow_mul_add _ hc, Nat.testBit_two_pow_mul_add _ h1]
  split
  · rw [Nat.testBit_and]
  · rw [Nat.testBit_and]
def F1 (n x : Nat) : Nat := (x / 2 &&& mk 85 n) + (x &&& mk 85 n)
def F2 (n x : Nat) : Nat := (x / 4 &&& mk 51 n) + (x &&& mk 51 n)
def F3 (n x : Nat) : Nat := (x / 16 + x) &&& mk 15 n
def s1 (b : Nat) : Nat := (b / 2 &&& 85) + (b &&& 85)
def s2 (b : Nat) : Nat := (b / 4 &&& 51) + (b &&& 51)
def s3 (b : Nat) : Nat := (b / 16 + b) &&& 15
theorem d1 : ∀ b : Fin 256, ∀ t : Fin 2, ((b.val / 2 + 128 * t.val) &&& 85) = (b.val / 2 &&& 85) := by decide +kernel
theorem d2 : ∀ b : Fin 256, ∀ t : Fin 4, ((b.val / 4 + 64 * t.val) &&& 51) = (b.val / 4 &&& 51) := by decide +kernel
theorem d3 : ∀ b : Fin 256, ∀ t : Fin 5, ((s2 (s1 b.val) / 16 + 16 * t.val + s2 (s1 b.val)) &&& 15) = s3 (s2 (s1 b.val)) ∧ s2 (s1 b.val) / 16 + 16 * t.val + s2 (s1 b.val) < 256 := by decide +kernel
theorem d4 : ∀ b : Fin 256, s1 b.val < 256 ∧ s2 (s1 b.val) < 256 ∧ s2 (s1 b.val) % 16 ≤ 4 ∧ s3 (s2 (s1 b.val)) ≤ 8 := by decide +kernel
theorem F1_step (n : Nat) {b : Nat} (hb : b < 256) (y : Nat) : F1 (n + 1) (b + 256 * y) = s1 b + 256 * F1 n y := by
  unfold F1 s1
  simp only [mk]
  have e : (b + 256 * y) / 2 = (b / 2 + 128 * (y % 2)) + 256 * (y / 2) := by omega
  have h := d1 ⟨b, hb⟩ ⟨y % 2, by omega⟩
  rw [e, and_split (by omega) (by omega), and_split hb (by omega)]
  simp only at h
  rw [h]
  omega
theorem F2_step (n : Nat) {b : Nat} (hb : b < 256) (y : Nat) : F2 (n + 1) (b + 256 * y) = s2 b + 256 * F2 n y := by
  unfold F2 s2
  simp only [mk]
  have e : (b + 256 * y) / 4 = (b / 4 + 64 * (y % 4)) + 256 * (y / 4) := by omega
  have h := d2 ⟨b, hb⟩ ⟨y % 4, by omega⟩
  rw [e, and_split (by omega) (by omega), and_split hb (by omega)]
  simp only at h
  rw [h]
  omega
theorem F12_low (n x : Nat) : F2 n (F1 n x) % 16 ≤ 4 := by
  cases n with
  | zero => simp [F2, F1, mk]
  | succ n =>
    have hx : x = x % 256 + 256 * (x / 256) := by omega
    obtain ⟨h1, h2, h3, h4⟩ := d4 ⟨x % 256, by omega⟩
    simp only at h1 h2 h3
    rw [hx, F1_step n (by omega), F2_step n h1]
    omega
def G (n x : Nat) : Nat := F3 n (F2 n (F1 n x))
theorem G_step (n : Nat) {b : Nat} (hb : b < 256) (y : Nat) : G (n + 1) (b + 256 * y) = s3 (s2 (s1 b)) + 256 * G n y := by
  obtain ⟨h1, h2, h3, h4⟩ := d4 ⟨b, hb⟩
  have hl := F12_low n y
  simp only at h1 h2
  unfold G
  rw [F1_step n hb, F2_step n h1]
  generalize F2 n (F1 n y) = z at *
  obtain ⟨h5, h6⟩ := d3 ⟨b, hb⟩ ⟨z % 16, by omega⟩
  simp only at h5 h6
  unfold F3
  simp only [mk]
  have e : (s2 (s1 b) + 256 * z) / 16 + (s2 (s1 b) + 256 * z) = (s2 (s1 b) / 16 + 16 * (z % 16) + s2 (s1 b)) + 256 * (z / 16 + z) := by omega
  rw [e, and_split h6 (by omega), h5]
/-- How many of the first n bits are set. -/
def popB (x : Nat) : Nat → Nat
  | 0 => 0
  | n + 1 => popB x n + (if x.testBit n = true then 1 else 0)
theorem popB_8 : ∀ b : Fin 256, s3 (s2 (s1 b.val)) = popB b.val 8 := by decide +kernel
theorem popB_split {b : Nat} (hb : b < 256) (y : Nat) : ∀ m, popB (b + 256 * y) (8 + m) = popB b 8 + popB y m
  | 0 => by
    have e : b + 256 * y = 2 ^ 8 * y + b := by omega
    have key : ∀ k, k ≤ 8 → popB (b + 256 * y) k = popB b k := by
      intro k
      induction k with
      | zero => intro _; rfl
      | succ k ih =>
        intro hk
        simp only [popB]
        have t : (b + 256 * y).testBit k = b.testBit k := by rw [e, Nat.testBit_two_pow_mul_add _ hb, if_pos (by omega)]
        rw [ih (by omega), t]
    rw [key 8 (by omega)]
    rfl
  | m + 1 => by
    have ih := popB_split hb y m
    have e : b + 256 * y = 2 ^ 8 * y + b := by omega
    show popB (b + 256 * y) (8 + m) + (if (b + 256 * y).testBit (8 + m) = true then 1 else 0) = _
    have t : (b + 256 * y).testBit (8 + m) = y.testBit m := by rw [e, Nat.testBit_two_pow_mul_add _ hb, if_neg (by omega), show 8 + m - 8 = m by omega]
    rw [ih, t]
    simp only [popB]
    omega
theorem popB_le (x : Nat) : ∀ n, popB x n ≤ n
  | 0 => by simp [popB]
  | n + 1 => by
    have := popB_le x n
    simp only [popB]
    split <;> omega
theorem q1 {p r : Nat} (hp : p < 256) : (p + 256 * r) / 256 = r := by omega
theorem q2 {a r : Nat} (ha : a < 65536) : (a + 65536 * r) / 65536 = r := by omega
theorem q3 {a r : Nat} (ha : a < 4294967296) : (a + 4294967296 * r) / 4294967296 = r := by omega
theorem id2 (p0 p1 p2 p3 p4 p5 p6 p7 : Nat) : (p0 + 256 * (p1 + 256 * (p2 + 256 * (p3 + 256 * (p4 + 256 * (p5 + 256 * (p6 + 256 * p7))))))) + (p1 + 256 * (p2 + 256 * (p3 + 256 * (p4 + 256 * (p5 + 256 * (p6 + 256 * p7)))))) = ((p0 + p1) + 256 * (p1 + p2)) + 65536 * (((p2 + p3) + 256 * (p3 + p4)) + 65536 * (((p4 + p5) + 256 * (p5 + p6)) + 65536 * ((p6 + p7) + 256 * p7))) := by omega
theorem id3 (a b c d : Nat) : (a + 65536 * (b + 65536 * (c + 65536 * d))) + (b + 65536 * (c + 65536 * d)) = ((a + b) + 65536 * (b + c)) + 4294967296 * ((c + d) + 65536 * d) := by omega
theorem bd2 {a b c d : Nat} (ha : a ≤ 10000) (hb : b ≤ 10000) (hc : c ≤ 10000) (hd : d ≤ 10000) : a + 65536 * (b + 65536 * (c + 65536 * d)) < 4611686018427387904 := by omega
theorem bd3 {a b c d : Nat} (ha : a ≤ 10000) (hb : b ≤ 10000) (hc : c ≤ 10000) (hd : d ≤ 10000) : ((a + b) + 65536 * (b + c)) + 4294967296 * ((c + d) + 65536 * d) < 4611686018427387904 ∧ (a + b) + 65536 * (b + c) < 4294967296 := by omega
theorem bd4 {x y : Nat} (hx : x < 4611686018427387904) (hy : y < 4294967296) : x + y < 9223372036854775808 := by omega
theorem md {a b c d : Nat} (e f g : Nat) : ((a + 256 * e) + 65536 * f + 4294967296 * g + ((b + 256 * c) + 65536 * d)) % 128 = (a + b) % 128 := by omega
/-- The last steps, on eight bytes that are small. -/
theorem fold8 (p0 p1 p2 p3 p4 p5 p6 p7 z : Nat) (h0 : p0 ≤ 8) (h1 : p1 ≤ 8) (h2 : p2 ≤ 8) (h3 : p3 ≤ 8) (h4 : p4 ≤ 8) (h5 : p5 ≤ 8) (h6 : p6 ≤ 8) (h7 : p7 ≤ 8)
    (hz : z = p0 + 256 * (p1 + 256 * (p2 + 256 * (p3 + 256 * (p4 + 256 * (p5 + 256 * (p6 + 256 * p7))))))) :
    z + z / 256 < 9223372036854775808 ∧ (z + z / 256) + (z + z / 256) / 65536 < 9223372036854775808 ∧ ((z + z / 256) + (z + z / 256) / 65536) + ((z + z / 256) + (z + z / 256) / 65536) / 4294967296 < 9223372036854775808 ∧
    (((z + z / 256) + (z + z / 256) / 65536) + ((z + z / 256) + (z + z / 256) / 65536) / 4294967296) % 128 = p0 + p1 + p2 + p3 + p4 + p5 + p6 + p7 := by
  have e1 : z / 256 = p1 + 256 * (p2 + 256 * (p3 + 256 * (p4 + 256 * (p5 + 256 * (p6 + 256 * p7))))) := by rw [hz]; exact q1 (by clear hz; omega)
  have e2 : z + z / 256 = ((p0 + p1) + 256 * (p1 + p2)) + 65536 * (((p2 + p3) + 256 * (p3 + p4)) + 65536 * (((p4 + p5) + 256 * (p5 + p6)) + 65536 * ((p6 + p7) + 256 * p7))) := by rw [e1, hz]; exact id2 _ _ _ _ _ _ _ _
  clear hz e1
  obtain ⟨a, ha⟩ : ∃ a, a = (p0 + p1) + 256 * (p1 + p2) := ⟨_, rfl⟩
  obtain ⟨b, hb⟩ : ∃ b, b = (p2 + p3) + 256 * (p3 + p4) := ⟨_, rfl⟩
  obtain ⟨c, hc⟩ : ∃ c, c = (p4 + p5) + 256 * (p5 + p6) := ⟨_, rfl⟩
  obtain ⟨d, hd⟩ : ∃ d, d = (p6 + p7) + 256 * p7 := ⟨_, rfl⟩
  rw [← ha, ← hb, ← hc, ← hd] at e2
  have la : a ≤ 10000 := by clear e2; omega
  have lb : b ≤ 10000 := by clear e2; omega
  have lc : c ≤ 10000 := by clear e2; omega
  have ld : d ≤ 10000 := by clear e2; omega
  have e3 : (z + z / 256) / 65536 = b + 65536 * (c + 65536 * d) := by rw [e2]; exact q2 (by clear e2; omega)
  have e4 : (z + z / 256) + (z + z / 256) / 65536 = ((a + b) + 65536 * (b + c)) + 4294967296 * ((c + d) + 65536 * d) := by rw [e3, e2]; exact id3 a b c d
  obtain ⟨b3, b4⟩ := bd3 la lb lc ld
  have e5 : ((z + z / 256) + (z + z / 256) / 65536) / 4294967296 = (c + d) + 65536 * d := by rw [e4]; exact q3 b4
  have t1 : z + z / 256 < 9223372036854775808 := by rw [e2]; exact Nat.lt_trans (bd2 la lb lc ld) (by decide)
  have t2 : (z + z / 256) + (z + z / 256) / 65536 < 9223372036854775808 := by rw [e4]; exact Nat.lt_trans b3 (by decide)
  refine ⟨t1, t2, ?_, ?_⟩
  · rw [e5, e4]
    exact bd4 b3 (by clear e2 e3 e4 e5 b3 b4 t1 t2; omega)
  · rw [e5, e4]
    clear e2 e3 e4 e5 b3 b4 t1 t2 la lb lc ld
    have k1 : (((a + b) + 65536 * (b + c)) + 4294967296 * ((c + d) + 65536 * d) + ((c + d) + 65536 * d)) % 128 = (a + b + c + d) % 128 := by clear ha hb hc hd; omega
    rw [k1]
    subst ha hb hc hd
    omega
end Go.Proofs.Ytalmlgkedcdkdaa.PC
