/- Ways of a field, beats on it: what the program and the reference say of them. No condition but that the numbers are within their kinds. -/
import Derived.Test.YtmhkechkkpppaaaGC
import Derived.Test.YtmhkechkkpppaaaGB
import Derived.Test.YtmhkechkkpppaaaPAllx1
import Derived.Test.YtmhkechkkpppaaaPAllx2
import Derived.Test.YtmhkechkkpppaaaPAllx3
namespace Go.Proofs.Ytmhkechkkpppaaa
open Go.RowKit Go.Proofs.YtmhkechkkpppaaaW.PrintWords Go.Proofs.YtmhkechkkpppaaaW.PrintLast Go.Proofs.YtmhkechkkpppaaaW.PrintMore
set_option linter.unusedSimpArgs false
set_option linter.unusedVariables false

/-- The square of two cells. -/
def sq (a b : Int) : Int := (a % 10 - b % 10) * (a % 10 - b % 10) + (a / 10 - b / 10) * (a / 10 - b / 10)
theorem sq_comm (a b : Int) : sq a b = sq b a := by
  unfold sq
  have h1 : (a % 10 - b % 10) = -(b % 10 - a % 10) := by omega
  have h2 : (a / 10 - b / 10) = -(b / 10 - a / 10) := by omega
  rw [h1, h2, Int.neg_mul_neg, Int.neg_mul_neg]
theorem sqr_bd {x : Int} (h0 : -9 ≤ x) (h1 : x ≤ 9) : 0 ≤ x * x ∧ x * x ≤ 81 := by
  have : x = -9 ∨ x = -8 ∨ x = -7 ∨ x = -6 ∨ x = -5 ∨ x = -4 ∨ x = -3 ∨ x = -2 ∨ x = -1 ∨ x = 0 ∨ x = 1 ∨ x = 2 ∨ x = 3 ∨ x = 4 ∨ x = 5 ∨ x = 6 ∨ x = 7 ∨ x = 8 ∨ x = 9 := by omega
  rcases this with h | h | h | h | h | h | h | h | h | h | h | h | h | h | h | h | h | h | h <;> subst h <;> decide
theorem sq_raw {a b : Int} (a0 : 0 ≤ a) (a1 : a ≤ 99) (b0 : 0 ≤ b) (b1 : b ≤ 99) :
    wrap64 ((wrap64 ((wrap64 ((Int.tmod a 10) - (Int.tmod b 10))) * (wrap64 ((Int.tmod a 10) - (Int.tmod b 10))))) + (wrap64 ((wrap64 ((wrap64 (Int.tdiv a 10)) - (wrap64 (Int.tdiv b 10)))) * (wrap64 ((wrap64 (Int.tdiv a 10)) - (wrap64 (Int.tdiv b 10))))))) = sq a b := by
  rw [Int.tmod_eq_emod_of_nonneg a0, Int.tmod_eq_emod_of_nonneg b0, Int.tdiv_eq_ediv_of_nonneg a0, Int.tdiv_eq_ediv_of_nonneg b0]
  have e1 : wrap64 (a % 10 - b % 10) = a % 10 - b % 10 := by unfold wrap64; omega
  have e2 : wrap64 (a / 10) = a / 10 := by unfold wrap64; omega
  have e3 : wrap64 (b / 10) = b / 10 := by unfold wrap64; omega
  have e4 : wrap64 (a / 10 - b / 10) = a / 10 - b / 10 := by unfold wrap64; omega
  rw [e1, e2, e3, e4]
  unfold sq
  have h1 := sqr_bd (x := a % 10 - b % 10) (by omega) (by omega)
  have h2 := sqr_bd (x := a / 10 - b / 10) (by omega) (by omega)
  generalize (a % 10 - b % 10) * (a % 10 - b % 10) = x at *
  generalize (a / 10 - b / 10) * (a / 10 - b / 10) = y at *
  have e5 : wrap64 x = x := by unfold wrap64; omega
  have e6 : wrap64 y = y := by unfold wrap64; omega
  rw [e5, e6]
  unfold wrap64
  omega
theorem square_any (a b : Nat) (ha : a < 100) (hb : b < 100) (w : World) : Calls Try.prog 86 #[.int .i64 a, .int .i64 b] w fun e w' => e = .returned (.int .i64 (sq a b)) ∧ ∃ n, w' = w.drewN n :=
  (PAll.impl_square.calls (a : Int) (b : Int) (sq a b) w (by unfold PAll.impl_square.f; rw [sq_raw (by omega) (by omega) (by omega) (by omega)])).mono fun e w' h => ⟨h.1, h.2.out⟩
theorem sSquare_any (a b : Nat) (ha : a < 100) (hb : b < 100) (w : World) : Calls Try.prog 80 #[.int .i64 a, .int .i64 b] w fun e w' => e = .returned (.int .i64 (sq a b)) ∧ ∃ n, w' = w.drewN n :=
  (PAll.spec_l01Square.calls (a : Int) (b : Int) (sq a b) w (by unfold PAll.spec_l01Square.f; rw [sq_raw (by omega) (by omega) (by omega) (by omega)])).mono fun e w' h => ⟨h.1, h.2.out⟩
theorem areNear_any (a b : Nat) (ha : a < 100) (hb : b < 100) (w : World) : Calls Try.prog 98 #[.int .i64 a, .int .i64 b] w fun e w' => e = .returned (.bool (decide (sq a b ≤ 1))) ∧ ∃ n, w' = w.drewN n :=
  (PAll.impl_areNear.calls (a : Int) (b : Int) (decide (sq a b ≤ 1)) w (by unfold PAll.impl_areNear.f PAll.impl_square.f; rw [sq_raw (by omega) (by omega) (by omega) (by omega)]; rfl)).mono fun e w' h => ⟨h.1, h.2.out⟩

/-- Whether a number is a cell of soil or of a path. -/
def Fld.way (F : Fld) (c : Int) : Bool := F.has c && ((F.kind c.toNat == 0) || (F.kind c.toNat == 2))
theorem way_has {F : Fld} {c : Int} (h : F.way c = true) : F.has c = true := by unfold Fld.way at h; rw [Bool.and_eq_true] at h; exact h.1

set_option maxHeartbeats 1000000 in
theorem isWay_any (F : Fld) (hF : F.Ok) (b : Nat) (c : Int) (w : World) (hf : IsF w b F) : Calls Try.prog 97 #[.pointer (some ⟨b, 0, none⟩), .int .i64 c] w fun e w' => e = .returned (.bool (F.way c)) ∧ w = w' := by
  have HF := Lib.hid hf
  have HO := Lib.hid hF
  have hck := fun (k : Nat) (hk : k < 100) => hf.ck hF hk
  clear hf hF
  unfold Fld.way
  cases hx : F.has c
  · have HX := Lib.hid hx
    clear hx hck
    go_enter Try.func97, Try.ntmps97
    go_wp2_with (go_at_call 66; refine (has_any F _ _ _ HF.out HO.out).mono ?_; rintro e w' ⟨rfl, rfl⟩; rw [HX.out])
    go_ret
    exact ⟨by simp, rfl⟩
  · obtain ⟨k, rfl, hk⟩ := has_nat hx
    have HX := Lib.hid hx
    have c1 := hck k hk
    rw [Int.toNat_natCast]
    clear hx hck
    cases h0 : (F.kind k == 0)
    · cases h2 : (F.kind k == 2)
      all_goals
        go_enter Try.func97, Try.ntmps97
        go_wp2_with (go_at_call 66; refine (has_any F _ _ _ HF.out HO.out).mono ?_; rintro e w' ⟨rfl, rfl⟩; rw [HX.out])
        go_ret
        exact ⟨by simp, rfl⟩
    · go_enter Try.func97, Try.ntmps97
      go_wp2_with (go_at_call 66; refine (has_any F _ _ _ HF.out HO.out).mono ?_; rintro e w' ⟨rfl, rfl⟩; rw [HX.out])
      go_ret
      exact ⟨by simp, rfl⟩
set_option maxHeartbeats 1000000 in
theorem walk_any (F : Fld) (hF : F.Ok) (b : Nat) (c : Int) (w : World) (hf : IsF w b F) : Calls Try.prog 79 #[.pointer (some ⟨b, 0, none⟩), .int .i64 c] w fun e w' => e = .returned (.bool (F.way c)) ∧ w = w' := by
  have HF := Lib.hid hf
  have HO := Lib.hid hF
  have hck := fun (k : Nat) (hk : k < 100) => hf.ck hF hk
  clear hf hF
  unfold Fld.way
  cases hx : F.has c
  · have HX := Lib.hid hx
    clear hx hck
    go_enter Try.func79, Try.ntmps79
    go_wp2_with (go_at_call 63; refine (is_any F _ _ _ HF.out HO.out).mono ?_; rintro e w' ⟨rfl, rfl⟩; rw [HX.out])
    go_ret
    exact ⟨by simp, rfl⟩
  · obtain ⟨k, rfl, hk⟩ := has_nat hx
    have HX := Lib.hid hx
    have c1 := hck k hk
    rw [Int.toNat_natCast]
    clear hx hck
    cases h0 : (F.kind k == 0)
    · cases h2 : (F.kind k == 2)
      all_goals
        go_enter Try.func79, Try.ntmps79
        go_wp2_with (go_at_call 63; refine (is_any F _ _ _ HF.out HO.out).mono ?_; rintro e w' ⟨rfl, rfl⟩; rw [HX.out])
        go_ret
        exact ⟨by simp, rfl⟩
    · go_enter Try.func79, Try.ntmps79
      go_wp2_with (go_at_call 63; refine (is_any F _ _ _ HF.out HO.out).mono ?_; rintro e w' ⟨rfl, rfl⟩; rw [HX.out])
      go_ret
      exact ⟨by simp, rfl⟩

end Go.Proofs.Ytmhkechkkpppaaa
