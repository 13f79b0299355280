/- Which fields are valid, by the reference. No condition but that the numbers are within their kinds. -/
import Derived.Test.YtlhiaofanejcoaaF4
namespace Go.Proofs.Ytlhiaofanejcoaa
open Go.RowKit
set_option linter.unusedSimpArgs false
set_option linter.unusedVariables false

theorem l01Kind_any (a : Int) (w : World) : Calls Try.prog 90 #[.int .i64 a] w fun e w' => e = .returned (.bool (inB a 0 3)) ∧ w = w' := by
  go_enter Try.func90, Try.ntmps90
  go_wp2_with (go_at_call 74; refine (in_any _ _ _ _).mono ?_; rintro e w' ⟨rfl, rfl⟩)
  go_ret
  exact ⟨rfl, rfl⟩

theorem l01Seeds_any (a : Int) (w : World) : Calls Try.prog 84 #[.int .i64 a] w fun e w' => e = .returned (.bool (inB a 0 1000)) ∧ w = w' := by
  go_enter Try.func84, Try.ntmps84
  go_wp2_with (go_at_call 74; refine (in_any _ _ _ _).mono ?_; rintro e w' ⟨rfl, rfl⟩)
  go_ret
  exact ⟨rfl, rfl⟩

/-- One number's test, as the reference makes it. -/
def cellS (x : Bool) (k s : Int) : Bool := !(!inB k 0 3 || (!inB s 0 1000 || (k != 0 && s != 0))) && !(!x && (k != 0 || s != 0))
theorem cellS_iff {F : Fld} (i : Nat) : cellS (F.has (i : Int)) (F.kind i) (F.seed i) = true ↔ F.CellOk i := by
  unfold cellS inB
  constructor
  · intro h
    simp only [Bool.and_eq_true, Bool.not_eq_true', Bool.or_eq_false_iff, Bool.and_eq_false_iff, bne_eq_false_iff_eq, Bool.not_eq_false', decide_eq_true_eq, Bool.not_eq_false] at h
    obtain ⟨⟨⟨a, b⟩, ⟨c, d⟩, e⟩, f⟩ := h
    exact ⟨a, b, c, d, fun hk => e.resolve_left hk, fun hx => by rcases f with f | f; exact absurd (f.symm.trans hx) (by decide); exact f.1, fun hx => by rcases f with f | f; exact absurd (f.symm.trans hx) (by decide); exact f.2⟩
  · intro h
    have := h.k0; have := h.k3; have := h.s0; have := h.s1
    simp only [Bool.and_eq_true, Bool.not_eq_true', Bool.or_eq_false_iff, Bool.and_eq_false_iff, bne_eq_false_iff_eq, Bool.not_eq_false', decide_eq_true_eq, Bool.not_eq_false]
    refine ⟨⟨⟨by omega, by omega⟩, ⟨by omega, by omega⟩, ?_⟩, ?_⟩
    · by_cases hk : F.kind i = 0
      · exact .inl hk
      · exact .inr (h.ks hk)
    · cases hx : F.has (i : Int)
      · exact .inr ⟨h.hk hx, h.hs hx⟩
      · exact .inl rfl

set_option maxHeartbeats 4000000 in
theorem l01Ok_any (F : Fld) (ho : F.Ok) (b : Nat) (w : World) (hf : IsF w b F) :
    Calls Try.prog 60 #[.pointer (some ⟨b, 0, none⟩)] w fun e w' => e = .returned (.bool F.valid) ∧ w = w' := by
  have HF := Lib.hid hf
  have HO := Lib.hid ho
  have hc0 := hf.c0
  have hc1 := hf.c1
  have h1 := ho.w0
  have h2 := ho.w1
  have h3 := ho.h0
  have h4 := ho.h1
  clear hf ho
  go_enter Try.func60, Try.ntmps60
  cases hw : inB F.wide 1 10
  · have HV := Lib.hid (Fld.valid_no (F := F) fun h => by rw [h.w] at hw; cases hw)
    go_wp2_with (go_at_call 74; refine (in_any _ _ _ _).mono ?_; rintro e w' ⟨rfl, rfl⟩)
    go_ret
    exact ⟨ret_bool HV.out.symm, rfl⟩
  cases hh : inB F.high 1 10
  · have HV := Lib.hid (Fld.valid_no (F := F) fun h => by rw [h.h] at hh; cases hh)
    go_wp2_with (go_at_call 74; refine (in_any _ _ _ _).mono ?_; rintro e w' ⟨rfl, rfl⟩)
    go_ret
    exact ⟨ret_bool HV.out.symm, rfl⟩
  go_upto_region 3 with (go_at_call 74; refine (in_any _ _ _ _).mono ?_; rintro e w' ⟨rfl, rfl⟩)
  have HW := Lib.hid hw
  have HH := Lib.hid hh
  clear hw hh
  go_wp2
  go_loop [3] (fun v => ∃ i : Nat, i ≤ 100 ∧ v = .int .i64 i ∧ Hid (∀ j, j < i → F.CellOk j)) (fun v => 100 - (intOf v).toNat)
  case atStart => exact ⟨0, by omega, rfl, Lib.hid (fun j hj => by omega)⟩
  case round =>
    obtain ⟨i, hi, rfl, HP⟩ := hrel
    by_cases hlt : i < 100
    · have ck := HF.out.ck HO.out hlt
      have cs := HF.out.cs HO.out hlt
      have kb := HO.out.kb i
      have sb := HO.out.sb i
      obtain ⟨kb0, kb1⟩ := kb
      obtain ⟨sb0, sb1⟩ := sb
      have HQ := Lib.hid (cellS_iff (F := F) i)
      cases hx : F.has (i : Int) <;> cases b2 : (F.kind i != 0) <;> cases d3 : inB (F.kind i) 0 3 <;> cases b4 : (F.seed i != 0) <;> cases hr : inB (F.seed i) 0 1000
      all_goals
        have HX := Lib.hid hx
        have HR := Lib.hid hr
        have HK := Lib.hid d3
        cases hc : cellS (F.has (i : Int)) (F.kind i) (F.seed i)
        · first
          | (exfalso; revert hc; simp [cellS, hx, b2, d3, b4, hr]; done)
          | (have HD : Hid (F.valid = false) := Lib.hid (Fld.valid_no fun h => by have := HQ.out.2 (h.c i hlt); rw [hc] at this; cases this)
             clear hx hr hc d3
             go_wp2_with (first
               | (go_at_call 88; refine (is_any F _ _ _ HF.out HO.out).mono ?_; rintro e w' ⟨rfl, rfl⟩; rw [HX.out])
               | (go_at_call 90; refine (l01Kind_any _ _).mono ?_; rintro e w' ⟨rfl, rfl⟩; rw [HK.out])
               | (go_at_call 84; refine (l01Seeds_any _ _).mono ?_; rintro e w' ⟨rfl, rfl⟩; rw [HR.out]))
             go_ret
             exact ⟨ret_bool HD.out.symm, rfl⟩)
        · first
          | (exfalso; revert hc; simp [cellS, hx, b2, d3, b4, hr]; done)
          | (have HD := Lib.hid (HQ.out.1 hc)
             clear hx hr hc d3
             go_wp2_with (first
               | (go_at_call 88; refine (is_any F _ _ _ HF.out HO.out).mono ?_; rintro e w' ⟨rfl, rfl⟩; rw [HX.out])
               | (go_at_call 90; refine (l01Kind_any _ _).mono ?_; rintro e w' ⟨rfl, rfl⟩; rw [HK.out])
               | (go_at_call 84; refine (l01Seeds_any _ _).mono ?_; rintro e w' ⟨rfl, rfl⟩; rw [HR.out]))
             go_round
             case rel => exact ⟨i + 1, by omega, by go_num, Lib.hid (fun j hj => by
                rcases Nat.lt_or_ge j i with h | h
                · exact HP.out j h
                · have e : j = i := by omega
                  rw [e]; exact HD.out)⟩
             case measure => simp [intOf]; omega)
    · have HV : Hid (F.valid = true) := Lib.hid (Fld.valid_yes ⟨HW.out, HH.out, fun j hj => HP.out j (by omega)⟩)
      go_wp2
      go_ret
      exact ⟨ret_bool HV.out.symm, rfl⟩
end Go.Proofs.Ytlhiaofanejcoaa
