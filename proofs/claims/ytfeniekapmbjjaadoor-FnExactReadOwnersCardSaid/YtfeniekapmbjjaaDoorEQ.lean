/- What the law's comparisons of fields and owners answer: equal ones are equal. No condition but those that each theorem names. -/
import Derived.Test.YtfeniekapmbjjaaDoorGB
namespace Go.Proofs.YtfeniekapmbjjaaDoor
open Go.RowKit
set_option linter.unusedSimpArgs false
set_option linter.unusedVariables false

set_option maxHeartbeats 1000000 in
theorem eqInt16s_any (xs ys : List Int) (hx : xs.length = 100) (hy : ys.length = 100) (h : xs = ys) (w : World) :
    Calls Tryd.prog 31 #[.agg (vrow .i16 xs).toArray, .agg (vrow .i16 ys).toArray] w fun e w' => e = .returned (.bool true) ∧ Below w.heap.size w w' := by
  obtain rfl := h
  clear hy
  go_enter Tryd.func31, Tryd.ntmps31
  go_upto_region 1 with (fail)
  obtain ⟨W, hW⟩ : ∃ W, W = (w.alloc (.cells (vrow .i16 xs).toArray 25)).alloc (.cells (vrow .i16 xs).toArray 25) := ⟨_, rfl⟩
  have HC := Lib.hid (boxed2 w (vrow .i16 xs) (vrow .i16 xs) 25 25)
  rw [← hW] at HC ⊢
  clear hW
  go_wp2
  go_loopw [5] (fun v wr => ∃ i : Nat, i ≤ 100 ∧ v = .int .i64 i ∧ ∃ n, wr = W.drewN n) (fun v _ => 100 - (intOf v).toNat)
  case atStart => exact ⟨0, by omega, rfl, 0, rfl⟩
  case round =>
    obtain ⟨i, hi, rfl, n, rfl⟩ := hrel
    by_cases hlt : i < 100
    · have c1 := (HC.out.blk (w.heap.size, vrow .i16 xs, 25) (by simp)).cell (vrow_get (k := .i16) (zs := xs) (i := i) (by omega))
      have c2 := (HC.out.blk (w.heap.size + 1, vrow .i16 xs, 25) (by simp)).cell (vrow_get (k := .i16) (zs := xs) (i := i) (by omega))
      have hne : (nth xs i != nth xs i) = false := by simp
      simp only at c1 c2
      go_wp2
      go_quiet (fail)
      go_wp2
      go_roundw
      case rel => exact ⟨i + 1, by omega, by go_num, _, rfl⟩
      case measure => simp [intOf]; omega
    · go_wp2
      go_ret
      exact ⟨rfl, below_drewN HC.out.below _⟩

set_option maxHeartbeats 1000000 in
theorem eqBytes_any (xs ys : List Int) (hx : xs.length = 100) (hy : ys.length = 100) (h : xs = ys) (w : World) :
    Calls Tryd.prog 30 #[.agg (vrow .u8 xs).toArray, .agg (vrow .u8 ys).toArray] w fun e w' => e = .returned (.bool true) ∧ Below w.heap.size w w' := by
  obtain rfl := h
  clear hy
  go_enter Tryd.func30, Tryd.ntmps30
  go_upto_region 1 with (fail)
  obtain ⟨W, hW⟩ : ∃ W, W = (w.alloc (.cells (vrow .u8 xs).toArray 23)).alloc (.cells (vrow .u8 xs).toArray 23) := ⟨_, rfl⟩
  have HC := Lib.hid (boxed2 w (vrow .u8 xs) (vrow .u8 xs) 23 23)
  rw [← hW] at HC ⊢
  clear hW
  go_wp2
  go_loopw [5] (fun v wr => ∃ i : Nat, i ≤ 100 ∧ v = .int .i64 i ∧ ∃ n, wr = W.drewN n) (fun v _ => 100 - (intOf v).toNat)
  case atStart => exact ⟨0, by omega, rfl, 0, rfl⟩
  case round =>
    obtain ⟨i, hi, rfl, n, rfl⟩ := hrel
    by_cases hlt : i < 100
    · have c1 := (HC.out.blk (w.heap.size, vrow .u8 xs, 23) (by simp)).cell (vrow_get (k := .u8) (zs := xs) (i := i) (by omega))
      have c2 := (HC.out.blk (w.heap.size + 1, vrow .u8 xs, 23) (by simp)).cell (vrow_get (k := .u8) (zs := xs) (i := i) (by omega))
      have hne : (nth xs i != nth xs i) = false := by simp
      simp only at c1 c2
      go_wp2
      go_quiet (fail)
      go_wp2
      go_roundw
      case rel => exact ⟨i + 1, by omega, by go_num, _, rfl⟩
      case measure => simp [intOf]; omega
    · go_wp2
      go_ret
      exact ⟨rfl, below_drewN HC.out.below _⟩


set_option maxHeartbeats 1000000 in
theorem eqField_any (F : Fld) (hF : F.Ok) (w : World) :
    Calls Tryd.prog 11 #[.agg F.vals.toArray, .agg F.vals.toArray] w fun e w' => e = .returned (.bool true) ∧ Below w.heap.size w w' := by
  have HO := Lib.hid hF
  clear hF
  go_enter Tryd.func11, Tryd.ntmps11
  go_upto_region 1 with (fail)
  obtain ⟨W, hW⟩ : ∃ W, W = (w.alloc (.cells F.vals.toArray 30)).alloc (.cells F.vals.toArray 30) := ⟨_, rfl⟩
  have HC := Lib.hid (boxed2 w F.vals F.vals 30 30)
  rw [← hW] at HC ⊢
  clear hW
  have HA := Lib.hid (HC.out.blk (w.heap.size, F.vals, 30) (by simp))
  have HB := Lib.hid (HC.out.blk (w.heap.size + 1, F.vals, 30) (by simp))
  have a0 := IsF.c0 HA.out
  have a1 := IsF.c1 HA.out
  have b0 := IsF.c0 HB.out
  have b1 := IsF.c1 HB.out
  have e0 : (F.wide != F.wide) = false := by simp
  have e1 : (F.high != F.high) = false := by simp
  simp only at a0 a1 b0 b1
  go_wp2_with (first
    | (with_reducible refine wpList_load_blk rfl 23 (.tmp 15) rfl _ 2 rfl (vrow .u8 F.kinds) _ HA.out HO.out.kpart Tryd.underlying23 rfl (by rw [vrow_len, HO.out.kl]; kernel_rfl) ?_)
    | (with_reducible refine wpList_load_blk rfl 23 (.tmp 17) rfl _ 2 rfl (vrow .u8 F.kinds) _ HB.out HO.out.kpart Tryd.underlying23 rfl (by rw [vrow_len, HO.out.kl]; kernel_rfl) ?_)
    | (go_at_call 30; (with_reducible refine (eqBytes_any _ _ HO.out.kl HO.out.kl rfl _).mono ?_); rintro e w4 ⟨rfl, hb⟩; have HC2 := Lib.hid (HC.out.step hb); clear hb; have HA2 := Lib.hid (HC2.out.blk (w.heap.size, F.vals, 30) (by simp)); have HB2 := Lib.hid (HC2.out.blk (w.heap.size + 1, F.vals, 30) (by simp)))
    | (with_reducible refine wpList_load_blk rfl 25 (.tmp 21) rfl _ 102 rfl (vrow .i16 F.seeds) _ HA2.out HO.out.spart Tryd.underlying25 rfl (by rw [vrow_len, HO.out.sl]; kernel_rfl) ?_)
    | (with_reducible refine wpList_load_blk rfl 25 (.tmp 23) rfl _ 102 rfl (vrow .i16 F.seeds) _ HB2.out HO.out.spart Tryd.underlying25 rfl (by rw [vrow_len, HO.out.sl]; kernel_rfl) ?_)
    | (go_at_call 31; (with_reducible refine (eqInt16s_any _ _ HO.out.sl HO.out.sl rfl _).mono ?_); rintro e w5 ⟨rfl, hb⟩; have HC3 := Lib.hid (HC2.out.step hb); clear hb))
  go_ret
  exact ⟨rfl, HC3.out.below⟩
set_option maxHeartbeats 1000000 in
theorem eqOwn_any (xs ys : List Int) (hx : xs.length = 100) (hy : ys.length = 100) (h : xs = ys) (w : World) :
    Calls Tryd.prog 12 #[.agg (vrow .i8 xs).toArray, .agg (vrow .i8 ys).toArray] w fun e w' => e = .returned (.bool true) ∧ Below w.heap.size w w' := by
  obtain rfl := h
  clear hy
  go_enter Tryd.func12, Tryd.ntmps12
  go_upto_region 1 with (fail)
  obtain ⟨W, hW⟩ : ∃ W, W = (w.alloc (.cells (vrow .i8 xs).toArray 32)).alloc (.cells (vrow .i8 xs).toArray 32) := ⟨_, rfl⟩
  have HC := Lib.hid (boxed2 w (vrow .i8 xs) (vrow .i8 xs) 32 32)
  rw [← hW] at HC ⊢
  clear hW
  go_wp2
  go_loopw [5] (fun v wr => ∃ i : Nat, i ≤ 100 ∧ v = .int .i64 i ∧ ∃ n, wr = W.drewN n) (fun v _ => 100 - (intOf v).toNat)
  case atStart => exact ⟨0, by omega, rfl, 0, rfl⟩
  case round =>
    obtain ⟨i, hi, rfl, n, rfl⟩ := hrel
    by_cases hlt : i < 100
    · have c1 := (HC.out.blk (w.heap.size, vrow .i8 xs, 32) (by simp)).cell (vrow_get (k := .i8) (zs := xs) (i := i) (by omega))
      have c2 := (HC.out.blk (w.heap.size + 1, vrow .i8 xs, 32) (by simp)).cell (vrow_get (k := .i8) (zs := xs) (i := i) (by omega))
      have hne : (nth xs i != nth xs i) = false := by simp
      simp only at c1 c2
      go_wp2
      go_quiet (fail)
      go_wp2
      go_roundw
      case rel => exact ⟨i + 1, by omega, by go_num, _, rfl⟩
      case measure => simp [intOf]; omega
    · go_wp2
      go_ret
      exact ⟨rfl, below_drewN HC.out.below _⟩

end Go.Proofs.YtfeniekapmbjjaaDoor
