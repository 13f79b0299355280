/- Whether a number is in a set, by the program and by the reference. No condition but bounds of the numbers. -/
import Derived.Test.YtalmlgkedcdkdaaBits
import Derived.Test.YtalmlgkedcdkdaaGC
namespace Go.Proofs.Ytalmlgkedcdkdaa
open Go.RowKit
set_option linter.unusedSimpArgs false
set_option linter.unusedVariables false

theorem bit_at {x : Int} (h0 : 0 ≤ x) (h1 : x ≤ 18446744073709551615) {r : Nat} (hr : r < 64) : (bits BinOp.and IntKind.u64 (x / 2 ^ r) 1 == 1) = (bv x).getLsbD r := by
  obtain ⟨n, rfl⟩ : ∃ n : Nat, x = (n : Int) := ⟨x.toNat, by omega⟩
  have hn : n < 2 ^ 64 := by omega
  have e1 : (n : Int) / 2 ^ r = ((n / 2 ^ r : Nat) : Int) := by
    have : ((2 : Int) ^ r) = (((2 : Nat) ^ r : Nat) : Int) := by simp
    rw [this]; rfl
  have e2 : (bv ((n : Nat) : Int)) = BitVec.ofNat 64 n := by unfold bv; rw [BitVec.ofInt_natCast]
  have e3 : (bv ((n / 2 ^ r : Nat) : Int)) = BitVec.ofNat 64 (n / 2 ^ r) := by unfold bv; rw [BitVec.ofInt_natCast]
  have e4 : bv 1 = BitVec.ofNat 64 1 := rfl
  have hle : n / 2 ^ r ≤ n := Nat.div_le_self _ _
  rw [e1, and_bv, e2, e3, e4, BitVec.getLsbD_ofNat, decide_eq_true hr, Bool.true_and, Nat.testBit_eq_decide_div_mod_eq, BitVec.toNat_and, BitVec.toNat_ofNat, BitVec.toNat_ofNat, Nat.mod_eq_of_lt (by omega), Nat.mod_eq_of_lt (by decide : 1 < 2 ^ 64), Nat.and_one_is_mod]
  rw [Bool.eq_iff_iff, beq_iff_eq, decide_eq_true_eq]
  omega

set_option maxHeartbeats 1000000 in
theorem hasCell_any {U : List Int} (hU : ClOk U) {k : Nat} (hk : k < 100) (w : World) : Calls Try.prog 28 #[.agg (vrow .u64 U).toArray, .int .i64 (k : Int)] w fun e w' => e = .returned (.bool (hasN U k)) ∧ Below w.heap.size w w' := by
  have hin : Hid (inB (k : Int) 0 99 = true) := Lib.hid (inB_iff.2 ⟨by omega, by omega⟩)
  obtain ⟨q, hq⟩ : ∃ q, q = k / 64 := ⟨_, rfl⟩
  obtain ⟨r, hr⟩ : ∃ r, r = k % 64 := ⟨_, rfl⟩
  have hq2 : q < 2 := by omega
  have hr2 : r < 64 := by omega
  have e1 : (k : Int) / 64 = (q : Int) := by omega
  have e2 : (k : Int) % 64 = (r : Int) := by omega
  have e3 : (k : Int).tdiv 64 = (q : Int) := by rw [Int.tdiv_eq_ediv_of_nonneg (by omega)]; exact e1
  have e4 : (k : Int).tmod 64 = (r : Int) := by rw [Int.tmod_eq_emod_of_nonneg (by omega)]; exact e2
  have hl := hU.len
  have hb : 0 ≤ nth U q ∧ nth U q ≤ 18446744073709551615 := hU.b _ (by
    unfold nth
    rw [List.getD_eq_getElem?_getD, List.getElem?_eq_getElem (show q < U.length by omega)]
    exact List.getElem_mem _)
  obtain ⟨b0, b1⟩ := hb
  unfold hasN
  rw [← hq, ← hr]
  clear hq hr
  go_enter Try.func28, Try.ntmps28
  go_upto_region 1 with (fail)
  obtain ⟨W, hW⟩ : ∃ W, W = w.alloc (.cells (vrow .u64 U).toArray 34) := ⟨_, rfl⟩
  have HC := Lib.hid (boxed1 w (vrow .u64 U) 34)
  rw [← hW] at HC ⊢
  clear hW
  have c0 : W.cell? ⟨w.heap.size, q, none⟩ = some (.int .u64 (nth U q)) := (HC.out.blk (w.heap.size, vrow .u64 U, 34) (by simp)).cell (vrow_get (k := .u64) (zs := U) (i := q) (by omega))
  go_wp2_with (go_at_call 36; refine (within_any _ _ _ _).mono ?_; rintro e w' ⟨rfl, rfl⟩; rw [hin.out])
  go_ret
  exact ⟨ret_bool (bit_at b0 b1 hr2), HC.out.below⟩
set_option maxHeartbeats 1000000 in
theorem l01Has_any {U : List Int} (hU : ClOk U) {k : Nat} (hk : k < 100) (g : Nat) (w : World) (hB : Blk w g (vrow .u64 U) 34) : Calls Try.prog 13 #[.pointer (some ⟨g, 0, none⟩), .int .i64 (k : Int)] w fun e w' => e = .returned (.bool (hasN U k)) ∧ Below w.heap.size w w' := by
  have hin : Hid (inB (k : Int) 0 99 = true) := Lib.hid (inB_iff.2 ⟨by omega, by omega⟩)
  obtain ⟨q, hq⟩ : ∃ q, q = k / 64 := ⟨_, rfl⟩
  obtain ⟨r, hr⟩ : ∃ r, r = k % 64 := ⟨_, rfl⟩
  have hq2 : q < 2 := by omega
  have hr2 : r < 64 := by omega
  have e1 : (k : Int) / 64 = (q : Int) := by omega
  have e2 : (k : Int) % 64 = (r : Int) := by omega
  have e3 : (k : Int).tdiv 64 = (q : Int) := by rw [Int.tdiv_eq_ediv_of_nonneg (by omega)]; exact e1
  have e4 : (k : Int).tmod 64 = (r : Int) := by rw [Int.tmod_eq_emod_of_nonneg (by omega)]; exact e2
  have hl := hU.len
  have hb : 0 ≤ nth U q ∧ nth U q ≤ 18446744073709551615 := hU.b _ (by
    unfold nth
    rw [List.getD_eq_getElem?_getD, List.getElem?_eq_getElem (show q < U.length by omega)]
    exact List.getElem_mem _)
  obtain ⟨b0, b1⟩ := hb
  have HB := Lib.hid hB
  clear hB
  have c0 : w.cell? ⟨g, q, none⟩ = some (.int .u64 (nth U q)) := HB.out.cell (vrow_get (k := .u64) (zs := U) (i := q) (by omega))
  unfold hasN
  rw [← hq, ← hr]
  clear hq hr
  go_enter Try.func13, Try.ntmps13
  go_wp2_with (go_at_call 24; refine (in_any _ _ _ _).mono ?_; rintro e w' ⟨rfl, rfl⟩; rw [hin.out])
  go_ret
  exact ⟨ret_bool (bit_at b0 b1 hr2), Below.refl _ _⟩
end Go.Proofs.Ytalmlgkedcdkdaa
