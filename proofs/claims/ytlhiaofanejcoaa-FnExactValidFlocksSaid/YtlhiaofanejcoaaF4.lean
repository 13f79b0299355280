/- Which fields are valid, by the program and by the reference: the same. No condition but that the numbers are within their kinds. -/
import Derived.Test.YtlhiaofanejcoaaF3
namespace Go.Proofs.Ytlhiaofanejcoaa
open Go.RowKit
set_option linter.unusedSimpArgs false
set_option linter.unusedVariables false

structure Fld.CellOk (F : Fld) (i : Nat) : Prop where
  k0 : 0 ≤ F.kind i
  k3 : F.kind i ≤ 3
  s0 : 0 ≤ F.seed i
  s1 : F.seed i ≤ 1000
  ks : F.kind i ≠ 0 → F.seed i = 0
  hk : F.has (i : Int) = false → F.kind i = 0
  hs : F.has (i : Int) = false → F.seed i = 0
structure Fld.Valid (F : Fld) : Prop where
  w : inB F.wide 1 10 = true
  h : inB F.high 1 10 = true
  c : ∀ i, i < 100 → F.CellOk i
open Classical in
noncomputable def Fld.valid (F : Fld) : Bool := decide F.Valid
theorem Fld.valid_iff {F : Fld} : F.valid = true ↔ F.Valid := by unfold Fld.valid; simp
theorem Fld.valid_yes {F : Fld} (h : F.Valid) : F.valid = true := valid_iff.2 h
theorem Fld.valid_no {F : Fld} (h : ¬ F.Valid) : F.valid = false := by
  rw [Bool.eq_false_iff]
  exact fun e => h (valid_iff.1 e)

/-- One number's test, as the program makes it. -/
def cellB (x : Bool) (k s : Int) : Bool := !((!x && k != 0) || decide (3 < k)) && (!(x && k == 0 && !inB s 0 1000) && !((!x || k != 0) && s != 0))
theorem cellB_iff {F : Fld} (ho : F.Ok) (i : Nat) : cellB (F.has (i : Int)) (F.kind i) (F.seed i) = true ↔ F.CellOk i := by
  have kb := ho.kb i
  unfold cellB inB
  cases hx : F.has (i : Int)
  · simp only [Bool.not_false, Bool.true_and, Bool.false_and, Bool.true_or, Bool.not_eq_true', Bool.and_eq_true, Bool.or_eq_false_iff, bne_eq_false_iff_eq, decide_eq_false_iff_not, true_and]
    exact ⟨fun ⟨⟨a, b⟩, c⟩ => ⟨by omega, by omega, by omega, by omega, fun _ => c, fun _ => a, fun _ => c⟩, fun h => ⟨⟨h.hk hx, by have := h.k3; omega⟩, h.hs hx⟩⟩
  · by_cases hk : F.kind i = 0
    · simp only [hk, Bool.not_true, Bool.false_and, Bool.false_or, Bool.true_and, Bool.not_eq_true', Bool.and_eq_true, bne_self_eq_false, beq_self_eq_true, decide_eq_false_iff_not, decide_eq_true_eq, Bool.not_eq_false', Bool.not_not]
      exact ⟨fun ⟨_, b, _⟩ => ⟨by omega, by omega, b.1, b.2, fun h => absurd hk h, fun h => absurd (hx.symm.trans h) (by decide), fun h => absurd (hx.symm.trans h) (by decide)⟩, fun h => ⟨by omega, ⟨h.s0, h.s1⟩, trivial⟩⟩
    · have hk' : (F.kind i == 0) = false := by simp [hk]
      have hk2 : (F.kind i != 0) = true := by simp [hk]
      simp only [hk', hk2, Bool.not_true, Bool.false_and, Bool.false_or, Bool.and_false, Bool.true_and, Bool.not_eq_true', Bool.and_eq_true, Bool.not_false, decide_eq_false_iff_not, bne_eq_false_iff_eq]
      exact ⟨fun ⟨a, b⟩ => ⟨by omega, by omega, by omega, by omega, fun _ => b, fun h => absurd (hx.symm.trans h) (by decide), fun h => absurd (hx.symm.trans h) (by decide)⟩, fun h => ⟨by have := h.k3; omega, h.ks hk⟩⟩

set_option maxHeartbeats 4000000 in
theorem validField_any (F : Fld) (ho : F.Ok) (w : World) :
    Calls Try.prog 58 #[.agg F.vals.toArray] w fun e w' => e = .returned (.bool F.valid) ∧ Below w.heap.size w w' := by
  go_enter Try.func58, Try.ntmps58
  go_upto_region 1 with (fail)
  obtain ⟨W, hW⟩ : ∃ W, W = w.alloc (.cells F.vals.toArray 30) := ⟨_, rfl⟩
  have HF0 : IsF W w.heap.size F := by rw [hW]; exact Blk.new' _ _ _
  have HB0 : Below w.heap.size w W := by rw [hW]; exact (Below.refl _ _).alloc (Nat.le_refl _) _
  rw [← hW]
  have HF := Lib.hid HF0
  have HB := Lib.hid HB0
  have HO := Lib.hid ho
  have hc0 := HF0.c0
  have hc1 := HF0.c1
  have h1 := ho.w0
  have h2 := ho.w1
  have h3 := ho.h0
  have h4 := ho.h1
  clear hW HF0 HB0 ho
  cases hw : inB F.wide 1 10
  · have HV := Lib.hid (Fld.valid_no (F := F) fun h => by rw [h.w] at hw; cases hw)
    go_wp2_with (go_at_call 75; refine (within_any _ _ _ _).mono ?_; rintro e w' ⟨rfl, rfl⟩)
    go_ret
    exact ⟨ret_bool HV.out.symm, HB.out⟩
  cases hh : inB F.high 1 10
  · have HV := Lib.hid (Fld.valid_no (F := F) fun h => by rw [h.h] at hh; cases hh)
    go_wp2_with (first | (go_at_call 75; refine (within_any _ _ _ _).mono ?_; rintro e w' ⟨rfl, rfl⟩))
    go_ret
    exact ⟨ret_bool HV.out.symm, HB.out⟩
  go_upto_region 3 with (go_at_call 75; refine (within_any _ _ _ _).mono ?_; rintro e w' ⟨rfl, rfl⟩)
  have HW := Lib.hid hw
  have HH := Lib.hid hh
  clear hw hh
  go_wp2
  go_loopw [18] (fun v wr => ∃ i : Nat, i ≤ 100 ∧ v = .int .i64 i ∧ Hid (∀ j, j < i → F.CellOk j) ∧ ∃ n, wr = W.drewN n) (fun v _ => 100 - (intOf v).toNat)
  case atStart => exact ⟨0, by omega, rfl, Lib.hid (fun j hj => by omega), 0, rfl⟩
  case round =>
    obtain ⟨i, hi, rfl, HP, n, rfl⟩ := hrel
    by_cases hlt : i < 100
    · have ck := HF.out.ck HO.out hlt
      have cs := HF.out.cs HO.out hlt
      have kb := HO.out.kb i
      have sb := HO.out.sb i
      obtain ⟨kb0, kb1⟩ := kb
      obtain ⟨sb0, sb1⟩ := sb
      have HQ := Lib.hid (cellB_iff HO.out i)
      cases hx : F.has (i : Int) <;> cases b2 : (F.kind i != 0) <;> cases d3 : decide (3 < F.kind i) <;> cases b4 : (F.seed i != 0) <;> cases hr : inB (F.seed i) 0 1000
      all_goals
        have b1 : (F.kind i == 0) = !(F.kind i != 0) := by simp [bne]
        rw [b2] at b1
        simp only [Bool.not_true, Bool.not_false] at b1
        have HX := Lib.hid hx
        have HR := Lib.hid hr
        cases hc : cellB (F.has (i : Int)) (F.kind i) (F.seed i)
        · first
          | (exfalso; revert hc; simp [cellB, hx, b1, b2, d3, b4, hr]; done)
          | (have HD : Hid (F.valid = false) := Lib.hid (Fld.valid_no fun h => by have := HQ.out.2 (h.c i hlt); rw [hc] at this; cases this)
             clear hx hr hc
             go_wp2
             go_quiet (fail)
             go_wp2_with (first
               | (go_at_call 89; refine (has_any F _ _ _ (HF.out.drewN _) HO.out).mono ?_; rintro e w' ⟨rfl, rfl⟩; rw [HX.out])
               | (go_at_call 75; refine (within_any _ _ _ _).mono ?_; rintro e w' ⟨rfl, rfl⟩; rw [HR.out]))
             go_ret
             exact ⟨ret_bool HD.out.symm, below_drewN HB.out _⟩)
        · first
          | (exfalso; revert hc; simp [cellB, hx, b1, b2, d3, b4, hr]; done)
          | (have HD := Lib.hid (HQ.out.1 hc)
             clear hx hr hc
             go_wp2
             go_quiet (fail)
             go_wp2_with (first
               | (go_at_call 89; refine (has_any F _ _ _ (HF.out.drewN _) HO.out).mono ?_; rintro e w' ⟨rfl, rfl⟩; rw [HX.out])
               | (go_at_call 75; refine (within_any _ _ _ _).mono ?_; rintro e w' ⟨rfl, rfl⟩; rw [HR.out]))
             go_roundw
             case rel => exact ⟨i + 1, by omega, by go_num, Lib.hid (fun j hj => by
                rcases Nat.lt_or_ge j i with h | h
                · exact HP.out j h
                · have e : j = i := by omega
                  rw [e]; exact HD.out), _, rfl⟩
             case measure => simp [intOf]; omega)
    · have HV : Hid (F.valid = true) := Lib.hid (Fld.valid_yes ⟨HW.out, HH.out, fun j hj => HP.out j (by omega)⟩)
      go_wp2
      go_ret
      exact ⟨ret_bool HV.out.symm, below_drewN HB.out _⟩
end Go.Proofs.Ytlhiaofanejcoaa
