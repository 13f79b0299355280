/- How many bits a word has, by the library's function; how many numbers a set has. No condition but the words' bounds. -/
import Derived.Test.YtalmlgkedcdkdaaPC
import Derived.Test.YtalmlgkedcdkdaaPAllx1
namespace Go.Proofs.Ytalmlgkedcdkdaa
open Go.RowKit Go.Proofs.YtalmlgkedcdkdaaW.PrintWords Go.Proofs.YtalmlgkedcdkdaaW.PrintLast Go.Proofs.YtalmlgkedcdkdaaW.PrintMore
set_option linter.unusedSimpArgs false
set_option linter.unusedVariables false

theorem and_nat {n m : Nat} (hn : n < 2 ^ 64) (hm : m < 2 ^ 64) : Go.bits .and .u64 (n : Int) (m : Int) = ((n &&& m : Nat) : Int) := by
  rw [and_bv]
  unfold bv
  rw [BitVec.ofInt_natCast, BitVec.ofInt_natCast, BitVec.toNat_and, BitVec.toNat_ofNat, BitVec.toNat_ofNat, Nat.mod_eq_of_lt hn, Nat.mod_eq_of_lt hm]
theorem and127 {n : Nat} (hn : n < 2 ^ 63) : Go.bits .and .i64 (n : Int) 127 = ((n % 128 : Nat) : Int) := by
  have e : Go.bits .and .i64 (n : Int) 127 = IntKind.i64.wrap (((bv (n : Int) &&& bv ((127 : Nat) : Int)).toNat : Nat) : Int) := rfl
  rw [e]
  unfold bv
  rw [BitVec.ofInt_natCast, BitVec.ofInt_natCast, BitVec.toNat_and, BitVec.toNat_ofNat, BitVec.toNat_ofNat, Nat.mod_eq_of_lt (by omega), Nat.mod_eq_of_lt (by decide : 127 < 2 ^ 64), show (127 : Nat) = 2 ^ 7 - 1 by decide, Nat.and_two_pow_sub_one_eq_mod, IntKind.wrap_i64]
  omega
theorem uw {n : Nat} (hn : n < 2 ^ 64) : IntKind.u64.wrap (n : Int) = (n : Int) := by rw [wrap_u64]; omega
def i1 (a : Int) : Int := IntKind.u64.wrap (Go.bits .and .u64 (a / 2) 6148914691236517205 + Go.bits .and .u64 a 6148914691236517205)
def i2 (a : Int) : Int := IntKind.u64.wrap (Go.bits .and .u64 (a / 4) 3689348814741910323 + Go.bits .and .u64 a 3689348814741910323)
def i3 (a : Int) : Int := Go.bits .and .u64 (IntKind.u64.wrap (a / 16 + a)) 1085102592571150095
def i4 (a : Int) : Int := IntKind.u64.wrap (a + a / 256)
def i5 (a : Int) : Int := IntKind.u64.wrap (a + a / 65536)
def i6 (a : Int) : Int := IntKind.u64.wrap (a + a / 4294967296)
theorem ones_def (a : Int) : PAll.bits_OnesCount64.f a = some (Go.bits .and .i64 (wrap64 (i6 (i5 (i4 (i3 (i2 (i1 a))))))) 127) := rfl
theorem m85 : PC.mk 85 8 = 6148914691236517205 := by decide
theorem m51 : PC.mk 51 8 = 3689348814741910323 := by decide
theorem m15 : PC.mk 15 8 = 1085102592571150095 := by decide
theorem i1_nat {n : Nat} (hn : n < 2 ^ 64) : i1 (n : Int) = (PC.F1 8 n : Int) ∧ PC.F1 8 n < 2 ^ 64 := by
  have a1 : n / 2 &&& PC.mk 85 8 ≤ 6148914691236517205 := by rw [m85]; exact Nat.and_le_right
  have a2 : n &&& PC.mk 85 8 ≤ 6148914691236517205 := by rw [m85]; exact Nat.and_le_right
  have e : ((n : Int) / 2) = ((n / 2 : Nat) : Int) := rfl
  have em : (6148914691236517205 : Int) = ((PC.mk 85 8 : Nat) : Int) := by rw [m85]; rfl
  have hb : PC.F1 8 n < 2 ^ 64 := by unfold PC.F1; omega
  refine ⟨?_, hb⟩
  unfold i1
  rw [e, em, and_nat (by omega) (by rw [m85]; decide), and_nat hn (by rw [m85]; decide), ← Int.natCast_add]
  exact uw hb
theorem i2_nat {n : Nat} (hn : n < 2 ^ 64) : i2 (n : Int) = (PC.F2 8 n : Int) ∧ PC.F2 8 n ≤ 7378697629483820646 := by
  have a1 : n / 4 &&& PC.mk 51 8 ≤ 3689348814741910323 := by rw [m51]; exact Nat.and_le_right
  have a2 : n &&& PC.mk 51 8 ≤ 3689348814741910323 := by rw [m51]; exact Nat.and_le_right
  have e : ((n : Int) / 4) = ((n / 4 : Nat) : Int) := rfl
  have em : (3689348814741910323 : Int) = ((PC.mk 51 8 : Nat) : Int) := by rw [m51]; rfl
  have hb : PC.F2 8 n ≤ 7378697629483820646 := by unfold PC.F2; omega
  refine ⟨?_, hb⟩
  unfold i2
  rw [e, em, and_nat (by omega) (by rw [m51]; decide), and_nat hn (by rw [m51]; decide), ← Int.natCast_add]
  exact uw (by unfold PC.F2 at hb; omega)
theorem i3_nat {n : Nat} (hn : n ≤ 7378697629483820646) : i3 (n : Int) = (PC.F3 8 n : Int) := by
  have e : ((n : Int) / 16) = ((n / 16 : Nat) : Int) := rfl
  have em : (1085102592571150095 : Int) = ((PC.mk 15 8 : Nat) : Int) := by rw [m15]; rfl
  unfold i3 PC.F3
  rw [e, ← Int.natCast_add, uw (by omega), em, and_nat (by omega) (by rw [m15]; decide)]
theorem G_zero (y : Nat) : PC.G 0 y = 0 := by unfold PC.G PC.F3; simp [PC.mk]
theorem byte (n : Nat) : n = n % 256 + 256 * (n / 256) := by omega
theorem p8 {b : Nat} (hb : b < 256) : PC.s3 (PC.s2 (PC.s1 b)) = PC.popB b 8 := PC.popB_8 ⟨b, hb⟩
theorem popB_0 (n : Nat) : PC.popB n 0 = 0 := rfl
theorem ones_f {n : Nat} (hn : n < 2 ^ 64) : PAll.bits_OnesCount64.f (n : Int) = some ((PC.popB n 64 : Nat) : Int) := by
  obtain ⟨e1, h1⟩ := i1_nat hn
  obtain ⟨e2, h2⟩ := i2_nat h1
  rw [ones_def, e1, e2, i3_nat h2]
  have hG : PC.F3 8 (PC.F2 8 (PC.F1 8 n)) = PC.G 8 n := rfl
  rw [hG]
  clear e1 e2 h1 h2 hG
  obtain ⟨z, hz⟩ : ∃ z, z = PC.G 8 n := ⟨_, rfl⟩
  obtain ⟨b0, n1, r0, q0⟩ : ∃ b m, b < 256 ∧ n = b + 256 * m := ⟨n % 256, n / 256, by omega, byte n⟩
  obtain ⟨b1, n2, r1, q1⟩ : ∃ b m, b < 256 ∧ n1 = b + 256 * m := ⟨n1 % 256, n1 / 256, by omega, byte n1⟩
  obtain ⟨b2, n3, r2, q2⟩ : ∃ b m, b < 256 ∧ n2 = b + 256 * m := ⟨n2 % 256, n2 / 256, by omega, byte n2⟩
  obtain ⟨b3, n4, r3, q3⟩ : ∃ b m, b < 256 ∧ n3 = b + 256 * m := ⟨n3 % 256, n3 / 256, by omega, byte n3⟩
  obtain ⟨b4, n5, r4, q4⟩ : ∃ b m, b < 256 ∧ n4 = b + 256 * m := ⟨n4 % 256, n4 / 256, by omega, byte n4⟩
  obtain ⟨b5, n6, r5, q5⟩ : ∃ b m, b < 256 ∧ n5 = b + 256 * m := ⟨n5 % 256, n5 / 256, by omega, byte n5⟩
  obtain ⟨b6, n7, r6, q6⟩ : ∃ b m, b < 256 ∧ n6 = b + 256 * m := ⟨n6 % 256, n6 / 256, by omega, byte n6⟩
  obtain ⟨b7, n8, r7, q7⟩ : ∃ b m, b < 256 ∧ n7 = b + 256 * m := ⟨n7 % 256, n7 / 256, by omega, byte n7⟩
  have hp : PC.popB n 64 = PC.popB b0 8 + PC.popB b1 8 + PC.popB b2 8 + PC.popB b3 8 + PC.popB b4 8 + PC.popB b5 8 + PC.popB b6 8 + PC.popB b7 8 := by
    rw [q0, PC.popB_split r0 n1 56, q1, PC.popB_split r1 n2 48, q2, PC.popB_split r2 n3 40, q3, PC.popB_split r3 n4 32, q4, PC.popB_split r4 n5 24, q5, PC.popB_split r5 n6 16, q6, PC.popB_split r6 n7 8, q7, PC.popB_split r7 n8 0, popB_0]
    clear hz q0 q1 q2 q3 q4 q5 q6 q7
    omega
  have hg : z = PC.popB b0 8 + 256 * (PC.popB b1 8 + 256 * (PC.popB b2 8 + 256 * (PC.popB b3 8 + 256 * (PC.popB b4 8 + 256 * (PC.popB b5 8 + 256 * (PC.popB b6 8 + 256 * PC.popB b7 8)))))) := by
    rw [hz, q0, PC.G_step 7 r0, q1, PC.G_step 6 r1, q2, PC.G_step 5 r2, q3, PC.G_step 4 r3, q4, PC.G_step 3 r4, q5, PC.G_step 2 r5, q6, PC.G_step 1 r6, q7, PC.G_step 0 r7, G_zero, p8 r0, p8 r1, p8 r2, p8 r3, p8 r4, p8 r5, p8 r6, p8 r7, Nat.mul_zero, Nat.add_zero]
  rw [← hz]
  clear q0 q1 q2 q3 q4 q5 q6 q7 hz hn
  obtain ⟨t1, t2, t3, t4⟩ := PC.fold8 _ _ _ _ _ _ _ _ z (PC.popB_le b0 8) (PC.popB_le b1 8) (PC.popB_le b2 8) (PC.popB_le b3 8) (PC.popB_le b4 8) (PC.popB_le b5 8) (PC.popB_le b6 8) (PC.popB_le b7 8) hg
  clear hg
  rw [hp, ← t4]
  clear t4 hp r0 r1 r2 r3 r4 r5 r6 r7
  have k4 : i4 (z : Int) = ((z + z / 256 : Nat) : Int) := by
    unfold i4
    rw [← uw (show z + z / 256 < 2 ^ 64 by clear t2 t3; omega)]
    rfl
  rw [k4]
  generalize z + z / 256 = y at *
  have k5 : i5 (y : Int) = ((y + y / 65536 : Nat) : Int) := by
    unfold i5
    rw [← uw (show y + y / 65536 < 2 ^ 64 by clear t3 t1 k4; omega)]
    rfl
  rw [k5]
  generalize y + y / 65536 = x at *
  have k6 : i6 (x : Int) = ((x + x / 4294967296 : Nat) : Int) := by
    unfold i6
    rw [← uw (show x + x / 4294967296 < 2 ^ 64 by clear t1 t2 k4 k5; omega)]
    rfl
  rw [k6]
  generalize x + x / 4294967296 = u at *
  have kw : wrap64 (u : Int) = (u : Int) := by unfold wrap64; omega
  rw [kw, and127 (by omega)]

/-- How many of the numbers below n are told of. -/
def cntN (p : Nat → Bool) : Nat → Nat
  | 0 => 0
  | n + 1 => cntN p n + (if p n = true then 1 else 0)
theorem cntN_same {p q : Nat → Bool} : ∀ n, (∀ i, i < n → p i = q i) → cntN p n = cntN q n
  | 0, _ => rfl
  | n + 1, h => by
    simp only [cntN]
    rw [cntN_same n (fun i hi => h i (by omega)), h n (by omega)]
theorem cntN_add (p : Nat → Bool) (n : Nat) : ∀ m, cntN p (n + m) = cntN p n + cntN (fun i => p (i + n)) m
  | 0 => rfl
  | m + 1 => by
    have ih := cntN_add p n m
    have e : n + m = m + n := Nat.add_comm _ _
    show cntN p (n + m) + (if p (n + m) = true then 1 else 0) = cntN p n + (cntN (fun i => p (i + n)) m + (if p (m + n) = true then 1 else 0))
    rw [ih, e]
    omega
theorem cntN_none {p : Nat → Bool} (h : ∀ i, p i = false) : ∀ n, cntN p n = 0
  | 0 => rfl
  | n + 1 => by simp [cntN, cntN_none h n, h n]
theorem popB_cntN (x : Nat) : ∀ n, PC.popB x n = cntN (x.testBit) n
  | 0 => rfl
  | n + 1 => by simp only [PC.popB, cntN]; rw [popB_cntN x n]
theorem cntN_le (p : Nat → Bool) : ∀ n, cntN p n ≤ n
  | 0 => by simp [cntN]
  | n + 1 => by
    have := cntN_le p n
    simp only [cntN]
    split <;> omega
theorem bv_test {n : Nat} (hn : n < 2 ^ 64) {j : Nat} (hj : j < 64) : (bv (n : Int)).getLsbD j = n.testBit j := by
  unfold bv
  rw [BitVec.ofInt_natCast, BitVec.getLsbD_ofNat, decide_eq_true hj, Bool.true_and]
/-- The two words' bits are the set's numbers. -/
theorem cntN_words {x y : Nat} (hx : x < 2 ^ 64) (hy : y < 2 ^ 64) : PC.popB x 64 + PC.popB (y &&& 68719476735) 64 = cntN (hasN [(x : Int), (y : Int)]) 100 := by
  rw [popB_cntN, popB_cntN]
  have e : cntN (hasN [(x : Int), (y : Int)]) 100 = cntN (hasN [(x : Int), (y : Int)]) 64 + cntN (fun i => hasN [(x : Int), (y : Int)] (i + 64)) 36 := cntN_add _ 64 36
  have e2 : cntN (Nat.testBit (y &&& 68719476735)) 64 = cntN (Nat.testBit (y &&& 68719476735)) 36 + cntN (fun i => Nat.testBit (y &&& 68719476735) (i + 36)) 28 := cntN_add _ 36 28
  have mb : ∀ i, Nat.testBit 68719476735 i = decide (i < 36) := fun i => by
    rw [show (68719476735 : Nat) = 2 ^ 36 - 1 by decide, Nat.testBit_two_pow_sub_one]
  rw [e, e2, cntN_none (p := fun i => Nat.testBit (y &&& 68719476735) (i + 36)) (fun i => by rw [Nat.testBit_and, mb, decide_eq_false (by omega : ¬ i + 36 < 36), Bool.and_false])]
  have f1 : cntN (Nat.testBit x) 64 = cntN (hasN [(x : Int), (y : Int)]) 64 := cntN_same 64 fun i hi => by rw [hasN_lo _ _ hi, bv_test hx hi]
  have f2 : cntN (Nat.testBit (y &&& 68719476735)) 36 = cntN (fun i => hasN [(x : Int), (y : Int)] (i + 64)) 36 := cntN_same 36 fun i hi => by rw [hasN_hi _ _ (by omega), bv_test hy (by omega), Nat.testBit_and, mb, decide_eq_true hi, Bool.and_true]
  rw [f1, f2]
  omega
end Go.Proofs.Ytalmlgkedcdkdaa
