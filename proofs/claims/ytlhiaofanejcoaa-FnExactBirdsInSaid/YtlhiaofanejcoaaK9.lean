/- BirdsIn, by the program and by the reference: the same. No condition but that the numbers are within their kinds. -/
import Derived.Test.YtlhiaofanejcoaaK3
namespace Go.Proofs.Ytlhiaofanejcoaa
open Go.RowKit Go.Proofs.YtlhiaofanejcoaaW.PrintWords Go.Proofs.YtlhiaofanejcoaaW.PrintLast Go.Proofs.YtlhiaofanejcoaaW.PrintMore Go.Proofs.Ytlhiaofanejcoaa.PAll
set_option linter.unusedSimpArgs false
set_option linter.unusedVariables false

def birdsTo (xs : List S39) : Nat → Int
  | 0 => 0
  | i + 1 => birdsTo xs i + (rd_T39 xs (i : Int)).f1
noncomputable def birdRes (F : Fld) (xs : List S39) : Int × Int := if (F.valid && flksOn F xs) = true then (birdsTo xs xs.length, 0) else (0, 1)
theorem flksOn_at {F : Fld} {xs : List S39} (h : flksOn F xs = true) : xs.length ≤ 12 ∧ ∀ i : Nat, i < xs.length → 0 ≤ (rd_T39 xs (i : Int)).f1 ∧ (rd_T39 xs (i : Int)).f1 ≤ 200 := by
  unfold flksOn at h
  rw [Bool.and_eq_true, decide_eq_true_eq] at h
  refine ⟨h.2, fun i hi => ?_⟩
  have h1 := List.all_eq_true.1 h.1 i (List.mem_range.2 hi)
  unfold flkOn at h1
  rw [Bool.and_eq_true] at h1
  have h2 := h1.1
  rw [spPlain_same, Bool.and_eq_true] at h2
  have h3 := h2.2
  unfold spPlain at h3
  rw [Bool.and_eq_true, inB_iff] at h3
  exact h3.1
theorem birds_bd {F : Fld} {xs : List S39} (h : flksOn F xs = true) : ∀ i, i ≤ xs.length → 0 ≤ birdsTo xs i ∧ birdsTo xs i ≤ 200 * (i : Int)
  | 0, _ => by simp [birdsTo]
  | i + 1, hi => by
    obtain ⟨a, b⟩ := birds_bd h i (by omega)
    obtain ⟨c, d⟩ := (flksOn_at h).2 i (by omega)
    simp only [birdsTo]
    omega

set_option maxHeartbeats 2000000 in
theorem iBirdsIn_any (F : Fld) (hF : F.Ok) (xs : List S39) (hx : FlksOk xs) (A : Option Addr) (c : Nat) (w : World) (hA : Kd.C k39 w A xs.length xs) :
    Calls Try.prog 54 #[.agg F.vals.toArray, .slice A xs.length c] w fun e w' => e = .returned (.tuple #[.int .i64 (birdRes F xs).1, .int .i64 (birdRes F xs).2]) ∧ Below w.heap.size w w' := by
  have HO := Lib.hid hF
  have HX := Lib.hid hx
  have HA := Lib.hid hA
  clear hF hx hA
  go_enter Try.func54, Try.ntmps54
  go_upto_region 1 with (fail)
  obtain ⟨W, hW⟩ : ∃ W, W = w.alloc (.cells F.vals.toArray 30) := ⟨_, rfl⟩
  have HC := Lib.hid (boxed1 w F.vals 30)
  rw [← hW] at HC ⊢
  clear hW
  cases hv : (F.valid && flksOn F xs)
  · have HV := Lib.hid hv
    have HR : Hid (birdRes F xs = (0, 1)) := Lib.hid (by unfold birdRes; rw [if_neg (by rw [hv]; decide)])
    clear hv
    go_wp2_with (first
      | (with_reducible refine wpList_load_blk rfl 30 (.tmp 2) rfl _ 0 rfl F.vals _ (HC.out.blk (w.heap.size, F.vals, 30) (by simp)) (by rw [List.drop_zero, List.take_length]) Try.underlying30 rfl (by rw [HO.out.len]; kernel_rfl) ?_)
      | (go_at_call 37; refine (iValidFlocks_any F HO.out xs HX.out A _ _ (Kd.C_below HA.out HC.out.below)).mono ?_; rintro e w1 ⟨rfl, hb⟩; rw [HV.out]; have HC1 := Lib.hid (HC.out.step hb); clear hb))
    go_ret2
    exact ⟨by rw [HR.out]; rfl, HC1.out.below⟩
  · have HV := Lib.hid hv
    have HR : Hid (birdRes F xs = (birdsTo xs xs.length, 0)) := Lib.hid (by unfold birdRes; rw [if_pos hv])
    rw [Bool.and_eq_true] at hv
    have h12 := (flksOn_at hv.2).1
    have HFL := Lib.hid (flksOn_at hv.2).2
    have HBD := Lib.hid (birds_bd hv.2)
    clear hv
    go_wp2_with (first
      | (with_reducible refine wpList_load_blk rfl 30 (.tmp 2) rfl _ 0 rfl F.vals _ (HC.out.blk (w.heap.size, F.vals, 30) (by simp)) (by rw [List.drop_zero, List.take_length]) Try.underlying30 rfl (by rw [HO.out.len]; kernel_rfl) ?_)
      | (go_at_call 37; refine (iValidFlocks_any F HO.out xs HX.out A _ _ (Kd.C_below HA.out HC.out.below)).mono ?_; rintro e w1 ⟨rfl, hb⟩; rw [HV.out]; have HC1 := Lib.hid (HC.out.step hb); clear hb))
    go_loopw [6, 15] (fun u v wr => ∃ i : Nat, i ≤ xs.length ∧ v = .int .i64 i ∧ u = .int .i64 (birdsTo xs i) ∧ Hid (Below w.heap.size w wr)) (fun _ v _ => xs.length - (intOf v).toNat)
    case atStart => exact ⟨0, by omega, rfl, rfl, Lib.hid HC1.out.below⟩
    case round =>
      obtain ⟨i, hi, rfl, rfl, HB⟩ := hrel
      by_cases hlt : i < xs.length
      · obtain ⟨ad, hA, x0, x1, x2, x3, x4, x5⟩ := at_T39 (Kd.C_below HA.out HB.out) (i : Int) (by omega) (by omega)
        subst hA
        rw [Int.toNat_natCast] at x0 x1 x2 x3 x4 x5
        obtain ⟨s0, s1⟩ := HBD.out i hi
        obtain ⟨f0, f1⟩ := HFL.out i hlt
        have HN : Hid (birdsTo xs (i + 1) = birdsTo xs i + (rd_T39 xs (i : Int)).f1) := Lib.hid rfl
        generalize rd_T39 xs (i : Int) = x at *
        go_wp2
        go_roundw
        case rel => exact ⟨i + 1, by omega, by go_num, by rw [HN.out], Lib.hid (HB.out.alloc HB.out.size _)⟩
        case measure => simp only [intOf]; omega
      · obtain rfl : i = xs.length := by omega
        go_wp2
        go_ret2
        exact ⟨by rw [HR.out]; rfl, HB.out⟩

set_option maxHeartbeats 2000000 in
theorem sBirdsIn_any (F : Fld) (hF : F.Ok) (xs : List S39) (hx : FlksOk xs) (A : Option Addr) (c : Nat) (w : World) (hA : Kd.C k39 w A xs.length xs) :
    Calls Try.prog 53 #[.agg F.vals.toArray, .slice A xs.length c] w fun e w' => e = .returned (.tuple #[.int .i64 (birdRes F xs).1, .int .i64 (birdRes F xs).2]) ∧ Below w.heap.size w w' := by
  have HO := Lib.hid hF
  have HX := Lib.hid hx
  have HA := Lib.hid hA
  clear hF hx hA
  go_enter Try.func53, Try.ntmps53
  go_upto_region 1 with (fail)
  obtain ⟨W, hW⟩ : ∃ W, W = w.alloc (.cells F.vals.toArray 30) := ⟨_, rfl⟩
  have HC := Lib.hid (boxed1 w F.vals 30)
  rw [← hW] at HC ⊢
  clear hW
  cases hv : (F.valid && flksOn F xs)
  · have HV := Lib.hid hv
    have HR : Hid (birdRes F xs = (0, 1)) := Lib.hid (by unfold birdRes; rw [if_neg (by rw [hv]; decide)])
    clear hv
    go_wp2_with (go_at_call 77; refine (l02Ok_any F HO.out xs HX.out _ A _ _ (HC.out.blk (w.heap.size, F.vals, 30) (by simp)) (Kd.C_below HA.out HC.out.below)).mono ?_; rintro e w' ⟨rfl, rfl⟩; rw [HV.out])
    go_ret2
    exact ⟨by rw [HR.out]; rfl, HC.out.below⟩
  · have HV := Lib.hid hv
    have HR : Hid (birdRes F xs = (birdsTo xs xs.length, 0)) := Lib.hid (by unfold birdRes; rw [if_pos hv])
    rw [Bool.and_eq_true] at hv
    have h12 := (flksOn_at hv.2).1
    have HFL := Lib.hid (flksOn_at hv.2).2
    have HBD := Lib.hid (birds_bd hv.2)
    clear hv
    go_wp2_with (go_at_call 77; refine (l02Ok_any F HO.out xs HX.out _ A _ _ (HC.out.blk (w.heap.size, F.vals, 30) (by simp)) (Kd.C_below HA.out HC.out.below)).mono ?_; rintro e w' ⟨rfl, rfl⟩; rw [HV.out])
    go_loop [6, 7] (fun u v => ∃ i : Nat, i ≤ xs.length ∧ v = .int .i64 i ∧ u = .int .i64 (birdsTo xs i)) (fun _ v => xs.length - (intOf v).toNat)
    case atStart => exact ⟨0, by omega, rfl, rfl⟩
    case round =>
      obtain ⟨i, hi, rfl, rfl⟩ := hrel
      by_cases hlt : i < xs.length
      · obtain ⟨ad, hA, x0, x1, x2, x3, x4, x5⟩ := at_T39 (Kd.C_below HA.out HC.out.below) (i : Int) (by omega) (by omega)
        subst hA
        rw [Int.toNat_natCast] at x0 x1 x2 x3 x4 x5
        obtain ⟨s0, s1⟩ := HBD.out i hi
        obtain ⟨f0, f1⟩ := HFL.out i hlt
        have HN : Hid (birdsTo xs (i + 1) = birdsTo xs i + (rd_T39 xs (i : Int)).f1) := Lib.hid rfl
        generalize rd_T39 xs (i : Int) = x at *
        go_wp2
        go_round
        case rel => exact ⟨i + 1, by omega, by go_num, by rw [HN.out]⟩
        case measure => simp only [intOf]; omega
      · obtain rfl : i = xs.length := by omega
        go_wp2
        go_ret2
        exact ⟨by rw [HR.out]; rfl, HC.out.below⟩
end Go.Proofs.Ytlhiaofanejcoaa
