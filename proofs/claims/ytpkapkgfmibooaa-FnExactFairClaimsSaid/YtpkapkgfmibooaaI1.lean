/- A list of whole numbers, asked by a function value whether one is such. No condition but what the function answers. -/
import Derived.Test.YtpkapkgfmibooaaGC
namespace Go.Proofs.Ytpkapkgfmibooaa
open Go.RowKit Go.Proofs.YtpkapkgfmibooaaW.PrintWords Go.Proofs.YtpkapkgfmibooaaW.PrintLast Go.Proofs.YtpkapkgfmibooaaW.PrintMore
set_option linter.unusedSimpArgs false
set_option linter.unusedVariables false

/-- Whether something holds of one at least of the first n. -/
def anyI (p : Nat → Bool) (n : Nat) : Bool := (List.range n).any p
theorem anyI_yes {p : Nat → Bool} {n : Nat} (i : Nat) (hi : i < n) (h : p i = true) : anyI p n = true := List.any_eq_true.2 ⟨i, List.mem_range.2 hi, h⟩
theorem anyI_no {p : Nat → Bool} {n : Nat} (h : ∀ i, i < n → p i = false) : anyI p n = false := by
  rw [Bool.eq_false_iff]
  intro e
  obtain ⟨i, hi, h1⟩ := List.any_eq_true.1 e
  rw [h i (List.mem_range.1 hi)] at h1
  cases h1
theorem anyI_step (p : Nat → Bool) (n : Nat) : anyI p (n + 1) = (anyI p n || p n) := by
  unfold anyI
  rw [List.range_succ, List.any_append]
  simp

set_option maxHeartbeats 2000000 in
theorem intIndex_any (xs : List Int) (p : Nat → Bool) (A : Option Addr) (c : Nat) (f : FuncId) (caps : Array Value) (w : World) (hA : Kd.C (Kd.int .i64) w A xs.length xs)
    (eg : ∀ args w, (callFunc f args).run Try.prog w = .ok (.enter f args) w)
    (hc : ∀ (i : Nat) w1, i < xs.length → Below w.heap.size w w1 → Calls Try.prog f (#[.int .i64 (rd xs (i : Int))] ++ caps) w1 fun e w' => e = .returned (.bool (p i)) ∧ Below w1.heap.size w1 w') :
    Calls Try.prog 82 #[.slice A xs.length c, .func (.func f) #[] caps] w fun e w' => (∃ z : Int, e = .returned (.int .i64 z) ∧ -1 ≤ z ∧ z ≤ xs.length ∧ decide (0 ≤ z) = anyI p xs.length) ∧ Below w.heap.size w w' := by
  have HA := Lib.hid hA
  have HC := Lib.hid hc
  have hlen := hA.2.1
  clear hA hc
  go_enter Try.func82, Try.ntmps82
  go_wp2
  go_loopw [8] (fun v wr => ∃ i : Nat, i ≤ xs.length ∧ v = .int .i64 i ∧ Hid (∀ j, j < i → p j = false) ∧ Hid (Below w.heap.size w wr)) (fun v _ => xs.length - (intOf v).toNat)
  case atStart => exact ⟨0, by omega, rfl, Lib.hid (fun j hj => by omega), Lib.hid (Below.refl _ _)⟩
  case round =>
    obtain ⟨i, hi, rfl, HR, HB⟩ := hrel
    by_cases hlt : i < xs.length
    · obtain ⟨ad, hA, x0⟩ := Kd.at_int (Kd.C_below HA.out HB.out) (i : Int) (by omega) (by omega)
      subst hA
      rw [Int.toNat_natCast] at x0
      have HCi := Lib.hid (HC.out i wr hlt HB.out)
      have e0 : xs.getD i 0 = rd xs (i : Int) := by simp [rd]
      try rw [e0] at x0
      generalize rd xs (i : Int) = x at *
      cases hp : p i
      · have HP := Lib.hid hp
        clear hp
        go_wp2_with (go_at_fn f; refine HCi.out.mono ?_; rintro e w5 ⟨rfl, hb⟩; rw [HP.out]; have HB5 : Hid (Below w.heap.size w w5) := Lib.hid (HB.out.trans (hb.mono HB.out.size)); clear hb)
        go_roundw
        case rel => exact ⟨i + 1, by omega, by go_num, Lib.hid (fun j hj => by
          rcases Nat.lt_or_ge j i with h | h
          · exact HR.out j h
          · have e : j = i := by omega
            rw [e]; exact HP.out), HB5⟩
        case measure => simp only [intOf]; omega
      · have HP := Lib.hid hp
        clear hp
        go_wp2_with (go_at_fn f; refine HCi.out.mono ?_; rintro e w5 ⟨rfl, hb⟩; rw [HP.out]; have HB5 : Hid (Below w.heap.size w w5) := Lib.hid (HB.out.trans (hb.mono HB.out.size)); clear hb)
        go_ret
        exact ⟨⟨(i : Int), rfl, by omega, by omega, by rw [anyI_yes i hlt HP.out]; simp⟩, HB5.out⟩
    · obtain rfl : i = xs.length := by omega
      go_wp2
      go_ret
      exact ⟨⟨-1, rfl, by omega, by omega, by rw [anyI_no HR.out]; rfl⟩, HB.out⟩

theorem intHas_any (xs : List Int) (p : Nat → Bool) (A : Option Addr) (c : Nat) (f : FuncId) (caps : Array Value) (w : World) (hA : Kd.C (Kd.int .i64) w A xs.length xs)
    (eg : ∀ args w, (callFunc f args).run Try.prog w = .ok (.enter f args) w)
    (hc : ∀ (i : Nat) w1, i < xs.length → Below w.heap.size w w1 → Calls Try.prog f (#[.int .i64 (rd xs (i : Int))] ++ caps) w1 fun e w' => e = .returned (.bool (p i)) ∧ Below w1.heap.size w1 w') :
    Calls Try.prog 78 #[.slice A xs.length c, .func (.func f) #[] caps] w fun e w' => e = .returned (.bool (anyI p xs.length)) ∧ Below w.heap.size w w' := by
  have HA := Lib.hid hA
  have HC := Lib.hid hc
  have hlen := hA.2.1
  clear hA hc
  go_enter Try.func78, Try.ntmps78
  go_wp2_with (go_at_call 82; refine (intIndex_any xs p A c f caps _ HA.out eg HC.out).mono ?_; rintro e w5 ⟨⟨z, rfl, hz0, hz1, hz2⟩, hb⟩; have HZ := Lib.hid hz2; have HB := Lib.hid hb; clear hz2 hb)
  go_ret
  exact ⟨ret_bool HZ.out, HB.out⟩

end Go.Proofs.Ytpkapkgfmibooaa