/- Ways of a field, beats on it: what the program and the reference say of them. No condition but that the numbers are within their kinds. -/
import Derived.Test.YtinpmhmagcmamaaGC
import Derived.Test.YtinpmhmagcmamaaGB
import Derived.Test.YtinpmhmagcmamaaPAllx1
import Derived.Test.YtinpmhmagcmamaaPAllx2
import Derived.Test.YtinpmhmagcmamaaPAllx3
namespace Go.Proofs.Ytinpmhmagcmamaa
open Go.RowKit Go.Proofs.YtinpmhmagcmamaaW.PrintWords Go.Proofs.YtinpmhmagcmamaaW.PrintLast Go.Proofs.YtinpmhmagcmamaaW.PrintMore
set_option linter.unusedSimpArgs false
set_option linter.unusedVariables false

/-- Whether a number is a cell of soil or of a path. -/
def Fld.way (F : Fld) (c : Int) : Bool := F.has c && ((F.kind c.toNat == 0) || (F.kind c.toNat == 2))
theorem way_has {F : Fld} {c : Int} (h : F.way c = true) : F.has c = true := by unfold Fld.way at h; rw [Bool.and_eq_true] at h; exact h.1

set_option maxHeartbeats 1000000 in
theorem isWay_any (F : Fld) (hF : F.Ok) (b : Nat) (c : Int) (w : World) (hf : IsF w b F) : Calls Try.prog 24 #[.pointer (some ⟨b, 0, none⟩), .int .i64 c] w fun e w' => e = .returned (.bool (F.way c)) ∧ w = w' := by
  have HF := Lib.hid hf
  have HO := Lib.hid hF
  have hck := fun (k : Nat) (hk : k < 100) => hf.ck hF hk
  clear hf hF
  unfold Fld.way
  cases hx : F.has c
  · have HX := Lib.hid hx
    clear hx hck
    go_enter Try.func24, Try.ntmps24
    go_wp2_with (go_at_call 23; refine (has_any F _ _ _ HF.out HO.out).mono ?_; rintro e w' ⟨rfl, rfl⟩; rw [HX.out])
    go_ret
    exact ⟨by simp, rfl⟩
  · obtain ⟨k, rfl, hk⟩ := has_nat hx
    have HX := Lib.hid hx
    have c1 := hck k hk
    rw [Int.toNat_natCast]
    clear hx hck
    cases h0 : (F.kind k == 0)
    · cases h2 : (F.kind k == 2)
      all_goals
        go_enter Try.func24, Try.ntmps24
        go_wp2_with (go_at_call 23; refine (has_any F _ _ _ HF.out HO.out).mono ?_; rintro e w' ⟨rfl, rfl⟩; rw [HX.out])
        go_ret
        exact ⟨by simp, rfl⟩
    · go_enter Try.func24, Try.ntmps24
      go_wp2_with (go_at_call 23; refine (has_any F _ _ _ HF.out HO.out).mono ?_; rintro e w' ⟨rfl, rfl⟩; rw [HX.out])
      go_ret
      exact ⟨by simp, rfl⟩
set_option maxHeartbeats 1000000 in
theorem walk_any (F : Fld) (hF : F.Ok) (b : Nat) (c : Int) (w : World) (hf : IsF w b F) : Calls Try.prog 16 #[.pointer (some ⟨b, 0, none⟩), .int .i64 c] w fun e w' => e = .returned (.bool (F.way c)) ∧ w = w' := by
  have HF := Lib.hid hf
  have HO := Lib.hid hF
  have hck := fun (k : Nat) (hk : k < 100) => hf.ck hF hk
  clear hf hF
  unfold Fld.way
  cases hx : F.has c
  · have HX := Lib.hid hx
    clear hx hck
    go_enter Try.func16, Try.ntmps16
    go_wp2_with (go_at_call 15; refine (is_any F _ _ _ HF.out HO.out).mono ?_; rintro e w' ⟨rfl, rfl⟩; rw [HX.out])
    go_ret
    exact ⟨by simp, rfl⟩
  · obtain ⟨k, rfl, hk⟩ := has_nat hx
    have HX := Lib.hid hx
    have c1 := hck k hk
    rw [Int.toNat_natCast]
    clear hx hck
    cases h0 : (F.kind k == 0)
    · cases h2 : (F.kind k == 2)
      all_goals
        go_enter Try.func16, Try.ntmps16
        go_wp2_with (go_at_call 15; refine (is_any F _ _ _ HF.out HO.out).mono ?_; rintro e w' ⟨rfl, rfl⟩; rw [HX.out])
        go_ret
        exact ⟨by simp, rfl⟩
    · go_enter Try.func16, Try.ntmps16
      go_wp2_with (go_at_call 15; refine (is_any F _ _ _ HF.out HO.out).mono ?_; rintro e w' ⟨rfl, rfl⟩; rw [HX.out])
      go_ret
      exact ⟨by simp, rfl⟩

end Go.Proofs.Ytinpmhmagcmamaa
