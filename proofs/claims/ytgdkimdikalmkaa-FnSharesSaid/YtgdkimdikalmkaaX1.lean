/- Whether all numbers of a list are amounts of money, by the program: a closure handed to the library's search. No condition. -/
import Derived.Test.YtgdkimdikalmkaaProg
import Derived.Test.YtgdkimdikalmkaaV
import Derived.WalkKit
import Derived.Lib.Hide
import Derived.KernelRfl
import Derived.Shelf.Abstract
import Derived.Deep.QuietTactic
import Derived.BigQuiet
namespace Go.Proofs.Ytgdkimdikalmkaa.X1
open Go.RowKit Go.Proofs.YtgdkimdikalmkaaW.PrintWords Go.Proofs.YtgdkimdikalmkaaW.PrintLast Go.Proofs.YtgdkimdikalmkaaW.PrintMore
set_option linter.unusedSimpArgs false
set_option linter.unusedVariables false

/-- Where a number of the list is that p takes, or -1. -/
def idxTo (p : Int → Bool) (l : List Int) : Int := if l.any p = true then ((l.findIdx p : Nat) : Int) else -1
theorem idx_at {p : Int → Bool} {l : List Int} {i : Nat} (hi : i < l.length) (h : ∀ j, j < i → p (rd l (j : Int)) = false) (hp : p (rd l (i : Int)) = true) : idxTo p l = (i : Int) := by
  have e : rd l (i : Int) = l[i] := by simp [rd, List.getD_eq_getElem?_getD, List.getElem?_eq_getElem hi]
  rw [e] at hp
  have ha : l.any p = true := List.any_eq_true.2 ⟨l[i], List.getElem_mem hi, hp⟩
  unfold idxTo
  rw [if_pos ha]
  have : l.findIdx p = i := by
    rw [List.findIdx_eq hi]
    refine ⟨hp, fun j hj => ?_⟩
    have := h j hj
    have e2 : rd l (j : Int) = l[j]'(by omega) := by simp [rd, List.getD_eq_getElem?_getD, List.getElem?_eq_getElem (show j < l.length by omega)]
    rw [e2] at this
    exact this
  rw [this]
theorem idx_none {p : Int → Bool} {l : List Int} (h : ∀ j, j < l.length → p (rd l (j : Int)) = false) : idxTo p l = -1 := by
  have ha : ¬ l.any p = true := by
    intro ha
    obtain ⟨x, hx, hp⟩ := List.any_eq_true.1 ha
    obtain ⟨i, hi, rfl⟩ := List.mem_iff_getElem.1 hx
    have := h i hi
    have e : rd l (i : Int) = l[i] := by simp [rd, List.getD_eq_getElem?_getD, List.getElem?_eq_getElem hi]
    rw [e, hp] at this
    cases this
  unfold idxTo
  rw [if_neg ha]
theorem idx_sign (p : Int → Bool) (l : List Int) : decide (0 ≤ idxTo p l) = l.any p := by
  unfold idxTo
  cases h : l.any p <;> simp

theorem ret_i {a b : Int} (h : a = b) : Ending.returned (.int .i64 a) = .returned (.int .i64 b) := by rw [h]

set_option maxHeartbeats 1000000 in
theorem indexFunc_any (p : Int → Bool) (f : FuncId) (caps : Array Value) (A0 : Option Addr) (c0 : Nat) (l : List Int) (hlen : l.length ≤ 1000000) (C : World → Prop)
    (eg : ∀ args w, (callFunc f args).run Try.prog w = .ok (.enter f args) w) (hC : ∀ w, C w → Kd.C (Kd.int .i64) w A0 l.length l) (hf : ∀ n w1, C w1 → Calls Try.prog f (#[.int .i64 n] ++ caps) w1 fun e w' => e = .returned (.bool (p n)) ∧ C w') (w : World) (hw : C w) :
    Calls Try.prog 95 #[.slice A0 l.length c0, .func (.func f) #[] caps] w fun e w' => e = .returned (.int .i64 (idxTo p l)) ∧ C w' := by
  have HC := Lib.hid hC
  have HF := Lib.hid hf
  have HW := Lib.hid hw
  clear hC hf hw
  go_enter Try.func95, Try.ntmps95
  go_wp2
  go_loopw [8] (fun v wr => ∃ i : Nat, i ≤ l.length ∧ v = .int .i64 i ∧ Hid (∀ j, j < i → p (rd l (j : Int)) = false) ∧ Hid (C wr)) (fun v _ => l.length - (intOf v).toNat)
  case atStart => exact ⟨0, by omega, rfl, Lib.hid (fun j hj => by omega), HW⟩
  case round =>
    clear HW
    obtain ⟨i, hi, rfl, HP, HR⟩ := hrel
    by_cases hlt : i < l.length
    · obtain ⟨ad, hA, hx⟩ := Kd.at_int (HC.out _ HR.out) (i : Int) (by omega) (by omega)
      subst hA
      rw [Int.toNat_natCast] at hx
      cases hp : p (rd l (i : Int))
      · have HX := Lib.hid hp
        clear hp
        go_wp2_with (first
          | (go_at_fn f; refine (HF.out _ _ HR.out).mono ?_; rintro e w4 ⟨rfl, hc⟩; rw [HX.out]; have HR4 := Lib.hid hc; clear hc))
        go_roundw
        case rel => exact ⟨i + 1, by omega, by go_num, Lib.hid (fun j hj => by
          rcases Nat.lt_or_ge j i with h | h
          · exact HP.out j h
          · have e : j = i := by omega
            rw [e]; exact HX.out), HR4⟩
        case measure => simp [intOf]; omega
      · have HX := Lib.hid hp
        clear hp
        have HE := Lib.hid (idx_at hlt HP.out HX.out)
        go_wp2_with (first
          | (go_at_fn f; refine (HF.out _ _ HR.out).mono ?_; rintro e w4 ⟨rfl, hc⟩; rw [HX.out]; have HR4 := Lib.hid hc; clear hc))
        go_ret
        exact ⟨ret_i HE.out.symm, HR4.out⟩
    · have HE : Hid (idxTo p l = -1) := Lib.hid (idx_none fun j hj => HP.out j (by omega))
      go_wp2
      go_ret
      exact ⟨ret_i HE.out.symm, HR.out⟩

set_option maxHeartbeats 1000000 in
theorem containsFunc_any (p : Int → Bool) (f : FuncId) (caps : Array Value) (A0 : Option Addr) (c0 : Nat) (l : List Int) (hlen : l.length ≤ 1000000) (C : World → Prop)
    (eg : ∀ args w, (callFunc f args).run Try.prog w = .ok (.enter f args) w) (hC : ∀ w, C w → Kd.C (Kd.int .i64) w A0 l.length l) (hf : ∀ n w1, C w1 → Calls Try.prog f (#[.int .i64 n] ++ caps) w1 fun e w' => e = .returned (.bool (p n)) ∧ C w') (w : World) (hw : C w) :
    Calls Try.prog 91 #[.slice A0 l.length c0, .func (.func f) #[] caps] w fun e w' => e = .returned (.bool (l.any p)) ∧ C w' := by
  have HI := fun w hw => indexFunc_any p f caps A0 c0 l hlen C eg hC hf w hw
  have HS := Lib.hid (idx_sign p l)
  have HW := Lib.hid hw
  clear hC hf hw eg
  go_enter Try.func91, Try.ntmps91
  go_wp2_with (first
    | (go_at_call 95; refine (HI _ HW.out).mono ?_; rintro e w4 ⟨rfl, hc⟩; have HR4 := Lib.hid hc; clear hc))
  go_ret
  exact ⟨by rw [← HS.out]; simp, HR4.out⟩

def money (n : Int) : Bool := decide (0 ≤ n) && decide (n ≤ 1000000)

theorem within_any (a b c : Int) (w : World) : Calls Try.prog 52 #[.int .i64 a, .int .i64 b, .int .i64 c] w fun e w' => e = .returned (.bool (decide (b ≤ a) && decide (a ≤ c))) ∧ w = w' := by
  by_cases h : b ≤ a
  · have hb : decide (b ≤ a) = true := decide_eq_true h
    rw [hb]
    go_enter Try.func52, Try.ntmps52
    go_wp2
    go_ret
    exact ⟨by simp, rfl⟩
  · have hb : decide (b ≤ a) = false := decide_eq_false h
    rw [hb]
    go_enter Try.func52, Try.ntmps52
    go_wp2
    go_ret
    exact ⟨by simp, rfl⟩

theorem notMoney_any (n : Int) (w : World) : Calls Try.prog 92 #[.int .i64 n] w fun e w' => e = .returned (.bool (!money n)) ∧ w = w' := by
  have HW := fun w => within_any n 0 1000000 w
  unfold money
  generalize (decide (0 ≤ n) && decide (n ≤ 1000000)) = m at *
  cases m
  all_goals
    go_enter Try.func92, Try.ntmps92
    go_wp2_with (go_at_call 52; refine (HW _).mono ?_; rintro e w4 ⟨rfl, rfl⟩)
    go_ret
    exact ⟨rfl, rfl⟩

/-- Whether all numbers of the list are amounts of money; nothing is told of a list past a million. -/
def areMoneysF (l : List Int) : Option Bool := if l.length ≤ 1000000 then some (l.all money) else none

theorem areMoneys_any (A0 : Option Addr) (c0 : Nat) (l0 : List Int) (r : Bool) (w : World) (hr0 : Kd.C (Kd.int .i64) w A0 l0.length l0) (h : areMoneysF l0 = some r) :
    Calls Try.prog 88 #[.slice A0 l0.length c0] w fun e w' => e = .returned (.bool r) ∧ Drawn0 w w' := by
  unfold areMoneysF at h
  split at h
  case isFalse => cases h
  case isTrue hl =>
    have hr : r = !l0.any (fun n => !money n) := by
      injection h with h
      rw [← h, List.all_eq_not_any_not]
    have HI := fun w1 hw => containsFunc_any (fun n => !money n) 92 #[] A0 c0 l0 hl (Drawn0 w) (enters_of Try.func92 (by kernel_rfl) rfl)
      (fun w2 h2 => by obtain ⟨n, rfl⟩ := h2; exact Kd.C_drewN hr0 n)
      (fun n w2 h2 => (notMoney_any n w2).mono fun e w3 h3 => ⟨h3.1, h3.2 ▸ h2⟩) w1 hw
    have HR := Lib.hid hr
    clear hr h
    have hmf : ∀ (fn : Fn) (first cap : Array Value) (w : World), (Instr.makeFunc fn first cap).run Try.prog w = .ok (.func fn first cap) w := fun _ _ _ _ => rfl
    go_enter Try.func88, Try.ntmps88
    go_wp2_with (first
      | (go_at_call 91; refine (HI _ (Drawn0.refl w)).mono ?_; rintro e w4 ⟨rfl, hc⟩; have HR4 := Lib.hid hc; clear hc))
    go_ret
    exact ⟨by rw [HR.out]; rfl, HR4.out⟩

end Go.Proofs.Ytgdkimdikalmkaa.X1
