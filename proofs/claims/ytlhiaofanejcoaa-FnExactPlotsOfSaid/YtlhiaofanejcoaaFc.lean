/- The code of a field and of whether numbers are as told, by the program: whether they are is asked of a closure. No condition but that the numbers are within their kinds, and what the closure answers. -/
import Derived.Test.YtlhiaofanejcoaaP2
import Derived.Test.YtlhiaofanejcoaaG2
import Derived.Shelf.Abstract
namespace Go.Proofs.Ytlhiaofanejcoaa
open Go.RowKit
set_option linter.unusedSimpArgs false
set_option linter.unusedVariables false

noncomputable def codeF (F : Fld) (q : Bool) : Int := if F.valid = true then (if q = true then 0 else 2) else 1
theorem codeF_0 {F : Fld} (h : F.valid = true) : codeF F true = 0 := by unfold codeF; rw [if_pos h]; rfl
theorem codeF_2 {F : Fld} (h : F.valid = true) : codeF F false = 2 := by unfold codeF; rw [if_pos h]; rfl
theorem codeF_1 {F : Fld} (h : F.valid = false) (q : Bool) : codeF F q = 1 := by unfold codeF; rw [if_neg (by rw [h]; decide)]

set_option maxHeartbeats 1000000 in
theorem fieldCode_any (F : Fld) (hF : F.Ok) (g : Nat) (f : FuncId) (caps : Array Value) (q : Bool) (w : World) (hf : IsF w g F)
    (eg : ∀ args w, (callFunc f args).run Try.prog w = .ok (.enter f args) w)
    (hc : F.valid = true → ∀ w1, Below w.heap.size w w1 → Calls Try.prog f caps w1 fun e w' => e = .returned (.bool q) ∧ Below w1.heap.size w1 w') :
    Calls Try.prog 85 #[.pointer (some ⟨g, 0, none⟩), .func (.func f) #[] caps] w fun e w' => e = .returned (.int .i64 (codeF F q)) ∧ Below w.heap.size w w' := by
  have HF := Lib.hid hf
  have HO := Lib.hid hF
  have HC := Lib.hid hc
  clear hf hF hc
  cases hv : F.valid
  · have HV := Lib.hid hv
    have HR := Lib.hid (codeF_1 hv q)
    clear hv
    go_enter Try.func85, Try.ntmps85
    go_wp2_with (first
      | (with_reducible refine wpList_load_blk rfl 30 (.tmp 7) rfl _ 0 rfl F.vals _ HF.out (by rw [List.drop_zero, List.take_length]) Try.underlying30 rfl (by rw [HO.out.len]; kernel_rfl) ?_)
      | (go_at_call 58; (with_reducible refine (validField_any F HO.out _).mono ?_); rintro e w1 ⟨rfl, hb⟩; rw [HV.out]; have HB1 := Lib.hid hb; clear hb))
    go_ret
    exact ⟨ret_i64 HR.out.symm, HB1.out⟩
  · have HV := Lib.hid hv
    cases q
    · have HR := Lib.hid (codeF_2 hv)
      clear hv
      go_enter Try.func85, Try.ntmps85
      go_wp2_with (first
        | (with_reducible refine wpList_load_blk rfl 30 (.tmp 7) rfl _ 0 rfl F.vals _ HF.out (by rw [List.drop_zero, List.take_length]) Try.underlying30 rfl (by rw [HO.out.len]; kernel_rfl) ?_)
        | (go_at_call 58; (with_reducible refine (validField_any F HO.out _).mono ?_); rintro e w1 ⟨rfl, hb⟩; rw [HV.out]; have HB1 := Lib.hid hb; clear hb)
        | (go_at_fn f; refine (HC.out HV.out _ HB1.out).mono ?_; rintro e w2 ⟨rfl, hb⟩; have HB2 := Lib.hid (HB1.out.trans (hb.mono HB1.out.size)); clear hb))
      go_ret
      exact ⟨ret_i64 HR.out.symm, HB2.out⟩
    · have HR := Lib.hid (codeF_0 hv)
      clear hv
      go_enter Try.func85, Try.ntmps85
      go_wp2_with (first
        | (with_reducible refine wpList_load_blk rfl 30 (.tmp 7) rfl _ 0 rfl F.vals _ HF.out (by rw [List.drop_zero, List.take_length]) Try.underlying30 rfl (by rw [HO.out.len]; kernel_rfl) ?_)
        | (go_at_call 58; (with_reducible refine (validField_any F HO.out _).mono ?_); rintro e w1 ⟨rfl, hb⟩; rw [HV.out]; have HB1 := Lib.hid hb; clear hb)
        | (go_at_fn f; refine (HC.out HV.out _ HB1.out).mono ?_; rintro e w2 ⟨rfl, hb⟩; have HB2 := Lib.hid (HB1.out.trans (hb.mono HB1.out.size)); clear hb))
      go_ret
      exact ⟨ret_i64 HR.out.symm, HB2.out⟩
end Go.Proofs.Ytlhiaofanejcoaa
