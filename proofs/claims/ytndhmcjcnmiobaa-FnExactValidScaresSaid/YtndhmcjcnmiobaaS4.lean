/- ValidScares, by the program and by the reference: the same. No condition but that the numbers are within their kinds. -/
import Derived.Test.YtndhmcjcnmiobaaS3
namespace Go.Proofs.Ytndhmcjcnmiobaa
open Go.RowKit Go.Proofs.YtndhmcjcnmiobaaW.PrintWords Go.Proofs.YtndhmcjcnmiobaaW.PrintLast Go.Proofs.YtndhmcjcnmiobaaW.PrintMore Go.Proofs.Ytndhmcjcnmiobaa.PAll
set_option linter.unusedSimpArgs false
set_option linter.unusedVariables false

set_option maxHeartbeats 2000000 in
theorem sValidScares_any (F : Fld) (hF : F.Ok) (xs : List S61) (hx : ScsOk xs) (A : Option Addr) (c : Nat) (w : World) (hA : Kd.C k61 w A xs.length xs) (hlc : xs.length ≤ c) :
    Calls Try.prog 10 #[.agg F.vals.toArray, .slice A xs.length c] w fun e w' => e = .returned (.bool (F.valid && scOn F xs)) ∧ Below w.heap.size w w' := by
  have HO := Lib.hid hF
  have HX := Lib.hid hx
  have HA := Lib.hid hA
  clear hF hx hA
  go_enter Try.func10, Try.ntmps10
  go_upto_region 1 with (fail)
  obtain ⟨W, hW⟩ : ∃ W, W = w.alloc (.cells F.vals.toArray 31) := ⟨_, rfl⟩
  have HC := Lib.hid (boxed1 w F.vals 31)
  rw [← hW] at HC ⊢
  clear hW
  go_wp2_with (go_at_call 28; (with_reducible refine (l03Ok_any F HO.out xs HX.out _ A c _ (HC.out.blk (w.heap.size, F.vals, 31) (by simp)) (Kd.C_below HA.out HC.out.below)).mono ?_); rintro e w1 ⟨rfl, hb⟩; have HC1 := Lib.hid (HC.out.step hb); clear hb)
  go_ret
  exact ⟨rfl, HC1.out.below⟩

set_option maxHeartbeats 2000000 in
theorem iValidScares_any (F : Fld) (hF : F.Ok) (xs : List S61) (hx : ScsOk xs) (A : Option Addr) (c : Nat) (w : World) (hA : Kd.C k61 w A xs.length xs) (hlc : xs.length ≤ c) :
    Calls Try.prog 13 #[.agg F.vals.toArray, .slice A xs.length c] w fun e w' => e = .returned (.bool (F.valid && scOn F xs)) ∧ Below w.heap.size w w' := by
  have HO := Lib.hid hF
  have HX := Lib.hid hx
  have HA := Lib.hid hA
  have HLC := Lib.hid hlc
  clear hF hx hA
  go_enter Try.func13, Try.ntmps13
  go_upto_region 1 with (fail)
  obtain ⟨W, hW⟩ : ∃ W, W = w.alloc (.cells F.vals.toArray 31) := ⟨_, rfl⟩
  have HC := Lib.hid (boxed1 w F.vals 31)
  rw [← hW] at HC ⊢
  clear hW
  cases hv : F.valid
  · have HV := Lib.hid hv
    clear hv
    go_wp2_with (first
      | (with_reducible refine wpList_load_blk rfl 31 (.tmp 2) rfl _ 0 rfl F.vals _ (HC.out.blk (w.heap.size, F.vals, 31) (by simp)) (by rw [List.drop_zero, List.take_length]) Try.underlying31 rfl (by rw [HO.out.len]; kernel_rfl) ?_)
      | (go_at_call 32; (with_reducible refine (validField_any F HO.out _).mono ?_); rintro e w1 ⟨rfl, hb⟩; rw [HV.out]; have HC1 := Lib.hid (HC.out.step hb); clear hb))
    go_ret
    exact ⟨ret_bool (by rw [HV.out]; rfl), HC1.out.below⟩
  · have HV := Lib.hid hv
    clear hv
    cases hs : scOn F xs
    all_goals
      have HS := Lib.hid hs
      clear hs
      go_wp2_with (first
        | (with_reducible refine wpList_load_blk rfl 31 (.tmp 2) rfl _ 0 rfl F.vals _ (HC.out.blk (w.heap.size, F.vals, 31) (by simp)) (by rw [List.drop_zero, List.take_length]) Try.underlying31 rfl (by rw [HO.out.len]; kernel_rfl) ?_)
        | (go_at_call 32; (with_reducible refine (validField_any F HO.out _).mono ?_); rintro e w1 ⟨rfl, hb⟩; rw [HV.out]; have HC1 := Lib.hid (HC.out.step hb); clear hb)
        | (go_at_call 33; (with_reducible refine (areScares_any F HO.out xs HX.out _ A c HLC.out _ (HC1.out.blk (w.heap.size, F.vals, 31) (by simp)) (Kd.C_below HA.out HC1.out.below)).mono ?_); rintro e w2 ⟨rfl, hb⟩; rw [HS.out]; have HC2 := Lib.hid (HC1.out.step hb); clear hb))
      go_ret
      exact ⟨ret_bool (by rw [HV.out, HS.out]; rfl), HC2.out.below⟩
end Go.Proofs.Ytndhmcjcnmiobaa
