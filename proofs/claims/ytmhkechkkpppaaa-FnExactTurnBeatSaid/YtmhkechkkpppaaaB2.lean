/- GapWith and GapOf, by the program and by the reference: the same. No condition but that the numbers are within their kinds. -/
import Derived.Test.YtmhkechkkpppaaaGq
import Derived.Test.YtmhkechkkpppaaaGC
namespace Go.Proofs.Ytmhkechkkpppaaa
open Go.RowKit Go.Proofs.YtmhkechkkpppaaaW.PrintWords Go.Proofs.YtmhkechkkpppaaaW.PrintLast Go.Proofs.YtmhkechkkpppaaaW.PrintMore Go.Proofs.Ytmhkechkkpppaaa.PAll
set_option linter.unusedSimpArgs false
set_option linter.unusedVariables false

theorem isSight_any (s : Int) (w : World) : Calls Try.prog 54 #[.int .i64 s] w fun e w' => e = .returned (.bool (inB s 0 50)) ∧ w = w' := by
  cases hs : inB s 0 50
  all_goals
    have HS := Lib.hid hs
    clear hs
    go_enter Try.func54, Try.ntmps54
    go_wp2_with (go_at_call 55; refine (within_any _ _ _ _).mono ?_; rintro e w' ⟨rfl, rfl⟩; rw [HS.out])
    go_ret
    exact ⟨rfl, rfl⟩
theorem beat_cells {F : Fld} {b : List Int} (h : (F.valid && onF F b) = true) : 1 ≤ b.length ∧ b.length ≤ 40 ∧ ∀ i : Nat, i < b.length → ∃ k : Nat, rd b (i : Int) = (k : Int) ∧ k < 100 := by
  rw [Bool.and_eq_true] at h
  have h2 := h.2
  unfold onF at h2
  rw [Bool.and_eq_true, inB_iff] at h2
  refine ⟨by omega, by omega, fun i hi => ?_⟩
  have h3 := allB_iff.1 h2.2 i hi
  unfold okS at h3
  rw [Bool.and_eq_true] at h3
  exact has_nat (way_has h3.1)
theorem btIn_of {F : Fld} {b : List Int} {c wt : Int} (h : (F.valid && onF F b) = true) (hc : F.has c = true) (hw : inB wt 1 8 = true) : BtIn b c wt.toNat ∧ ((wt.toNat : Nat) : Int) = wt := by
  obtain ⟨l0, l1, hb⟩ := beat_cells h
  obtain ⟨k, rfl, hk⟩ := has_nat hc
  have h2 := inB_iff.1 hw
  refine ⟨⟨l0, l1, fun i hi => ?_, by omega, by omega, by omega, by omega⟩, by omega⟩
  obtain ⟨m, e, hm⟩ := hb i hi
  rw [e]
  omega
theorem gapC_any {b : List Int} {c : Int} {wt : Nat} (h : BtIn b c wt) (s : Int) (A : Option Addr) (n : Nat) (w : World) (hA : BtAt w A b) (hc : b.length ≤ n) :
    Calls Try.prog 69 #[.slice A b.length n, .int .i64 s, .int .i64 c, .int .i64 (wt : Int)] w fun e w' => e = .returned (.int .i64 (gapB b s c wt)) ∧ Below w.heap.size w w' :=
  impl_Beat_gap.calls (1 + b.length * (wt + 2)) A n b s c wt _ w hA hc (gap_f h _ (Nat.le_refl _))
theorem sgapC_any {b : List Int} {c : Int} {wt : Nat} (h : BtIn b c wt) (s : Int) (A : Option Addr) (n : Nat) (w : World) (hA : BtAt w A b) (hc : b.length ≤ n) :
    Calls Try.prog 67 #[.slice A b.length n, .int .i64 s, .int .i64 c, .int .i64 (wt : Int)] w fun e w' => e = .returned (.int .i64 (gapB b s c wt)) ∧ Below w.heap.size w w' :=
  spec_l05Gap.calls (1 + b.length * (b.length + wt + 2)) A n b s c wt _ w hA hc (sgap_f h _ (Nat.le_refl _))

def gwB (F : Fld) (s c wt : Int) : Bool := inB s 0 50 && (F.has c && inB wt 1 8)
/-- The gap and the code. -/
noncomputable def gwRes (F : Fld) (b : List Int) (s c wt : Int) : Int × Int := if codeB F b (gwB F s c wt) = 0 then (if gapB b s c wt.toNat = 0 then (0, 6) else (gapB b s c wt.toNat, 0)) else (0, codeB F b (gwB F s c wt))
theorem codeB_zero {F : Fld} {b : List Int} {q : Bool} (h : codeB F b q = 0) : (F.valid && onF F b) = true ∧ q = true := by
  unfold codeB at h
  split at h
  case isTrue h1 =>
    split at h
    case isTrue h2 => exact ⟨h1, h2⟩
    case isFalse => cases h
  case isFalse => cases h

theorem gwClo_any (F : Fld) (hF : F.Ok) (s c wt : Int) (g d1 d2 d3 : Nat) (w : World) (hf : IsF w g F) (h1 : Blk w d1 [.int .i64 s] 2) (h2 : Blk w d2 [.int .i64 c] 2) (h3 : Blk w d3 [.int .i64 wt] 2) :
    Calls Try.prog 68 #[.pointer (some ⟨d1, 0, none⟩), .pointer (some ⟨g, 0, none⟩), .pointer (some ⟨d2, 0, none⟩), .pointer (some ⟨d3, 0, none⟩)] w fun e w' => e = .returned (.bool (gwB F s c wt)) ∧ Below w.heap.size w w' := by
  have c1 := h1.cell (i := 0) rfl
  have c2 := h2.cell (i := 0) rfl
  have c3 := h3.cell (i := 0) rfl
  have HF := Lib.hid hf
  have HO := Lib.hid hF
  clear hf hF h1 h2 h3
  cases hs : inB s 0 50
  · have HS := Lib.hid hs
    have HR : Hid (gwB F s c wt = false) := Lib.hid (by unfold gwB; rw [hs]; rfl)
    clear hs
    go_enter Try.func68, Try.ntmps68
    go_wp2_with (go_at_call 54; refine (isSight_any _ _).mono ?_; rintro e w' ⟨rfl, rfl⟩; rw [HS.out])
    go_ret
    exact ⟨ret_bool HR.out.symm, Below.refl _ _⟩
  · have HS := Lib.hid hs
    cases hh : F.has c
    · have HH := Lib.hid hh
      have HR : Hid (gwB F s c wt = false) := Lib.hid (by unfold gwB; rw [hs, hh]; rfl)
      clear hs hh
      go_enter Try.func68, Try.ntmps68
      go_wp2_with (first
        | (go_at_call 54; refine (isSight_any _ _).mono ?_; rintro e w' ⟨rfl, rfl⟩; rw [HS.out])
        | (go_at_call 66; refine (has_any F g c _ HF.out HO.out).mono ?_; rintro e w' ⟨rfl, rfl⟩; rw [HH.out]))
      go_ret
      exact ⟨ret_bool HR.out.symm, Below.refl _ _⟩
    · have HH := Lib.hid hh
      have HR : Hid (gwB F s c wt = inB wt 1 8) := Lib.hid (by unfold gwB; rw [hs, hh]; rfl)
      clear hs hh
      cases hw : inB wt 1 8
      all_goals
        have HW := Lib.hid hw
        clear hw
        go_enter Try.func68, Try.ntmps68
        go_wp2_with (first
          | (go_at_call 54; refine (isSight_any _ _).mono ?_; rintro e w' ⟨rfl, rfl⟩; rw [HS.out])
          | (go_at_call 66; refine (has_any F g c _ HF.out HO.out).mono ?_; rintro e w' ⟨rfl, rfl⟩; rw [HH.out])
          | (go_at_call 55; refine (within_any _ _ _ _).mono ?_; rintro e w' ⟨rfl, rfl⟩; rw [HW.out]))
        go_ret
        exact ⟨ret_bool (by rw [HR.out, HW.out]), Below.refl _ _⟩


set_option maxHeartbeats 2000000 in
theorem iGapWith_any (F : Fld) (hF : F.Ok) (b : List Int) (hb : BtOk b) (s c wt : Int) (A : Option Addr) (n : Nat) (w : World) (hA : BtAt w A b) (hlc : b.length ≤ n) :
    Calls Try.prog 33 #[.agg F.vals.toArray, .slice A b.length n, .int .i64 s, .int .i64 c, .int .i64 wt] w fun e w' => e = .returned (.tuple #[.int .i64 (gwRes F b s c wt).1, .int .i64 (gwRes F b s c wt).2]) ∧ Below w.heap.size w w' := by
  have HO := Lib.hid hF
  have HBO := Lib.hid hb
  have HA := Lib.hid hA
  have HLC := Lib.hid hlc
  clear hF hb hA hlc
  have hmf : ∀ (fn : Fn) (first cap : Array Value) (w : World), (Instr.makeFunc fn first cap).run Try.prog w = .ok (.func fn first cap) w := fun _ _ _ _ => rfl
  go_enter Try.func33, Try.ntmps33
  go_upto_region 1 with (fail)
  obtain ⟨W, hW⟩ : ∃ W, W = (((w.alloc (.cells F.vals.toArray 32)).alloc (.cells [Value.int .i64 s].toArray 2)).alloc (.cells [Value.int .i64 c].toArray 2)).alloc (.cells [Value.int .i64 wt].toArray 2) := ⟨_, rfl⟩
  have HC := Lib.hid (boxed4 w F.vals [.int .i64 s] [.int .i64 c] [.int .i64 wt] 32 2 2 2)
  rw [← hW] at HC ⊢
  clear hW
  by_cases hq : codeB F b (gwB F s c wt) = 0
  · obtain ⟨hv, hgw⟩ := codeB_zero hq
    have hgw' := hgw
    unfold gwB at hgw'
    rw [Bool.and_eq_true, Bool.and_eq_true] at hgw'
    obtain ⟨hI, hwt⟩ := btIn_of hv hgw'.2.1 hgw'.2.2
    have HI := Lib.hid hI
    have HWT := Lib.hid hwt
    have HQ := Lib.hid hq
    clear hv hgw hgw' hI hwt
    by_cases h0 : gapB b s c wt.toNat = 0
    · have HR : Hid (gwRes F b s c wt = (0, 6)) := Lib.hid (by unfold gwRes; rw [if_pos hq, if_pos h0])
      have HG := Lib.hid h0
      clear hq h0
      go_wp2_with (first
        | (go_at_call 52; refine (beatCode_any F HO.out b HBO.out _ A n 68 _ (gwB F s c wt) _ (HC.out.blk (w.heap.size, F.vals, 32) (by simp)) (Kd.C_below HA.out HC.out.below) (enters_of Try.func68 (by kernel_rfl) rfl) (fun _ w1 hb => gwClo_any F HO.out s c wt _ _ _ _ w1 ((HC.out.step hb).blk (w.heap.size, F.vals, 32) (by simp)) ((HC.out.step hb).blk (w.heap.size + 1, [.int .i64 s], 2) (by simp)) ((HC.out.step hb).blk (w.heap.size + 1 + 1, [.int .i64 c], 2) (by simp)) ((HC.out.step hb).blk (w.heap.size + 1 + 1 + 1, [.int .i64 wt], 2) (by simp)))).mono ?_; rintro e w2 ⟨rfl, hb⟩; rw [HQ.out]; have HC1 := Lib.hid (HC.out.step hb); clear hb; have k1 : w2.cell? ⟨w.heap.size + 1, 0, none⟩ = some (.int .i64 s) := (HC1.out.blk (w.heap.size + 1, [.int .i64 s], 2) (by simp)).cell rfl; have k2 : w2.cell? ⟨w.heap.size + 1 + 1, 0, none⟩ = some (.int .i64 c) := (HC1.out.blk (w.heap.size + 1 + 1, [.int .i64 c], 2) (by simp)).cell rfl; have k3 : w2.cell? ⟨w.heap.size + 1 + 1 + 1, 0, none⟩ = some (.int .i64 wt) := (HC1.out.blk (w.heap.size + 1 + 1 + 1, [.int .i64 wt], 2) (by simp)).cell rfl)
        | (go_at_call 69; rw [← HWT.out]; refine (gapC_any HI.out s A n _ (Kd.C_below HA.out HC1.out.below) HLC.out).mono ?_; rintro e w3 ⟨rfl, hb⟩; rw [HG.out]; have HC2 := Lib.hid (HC1.out.step hb); clear hb))
      go_ret2
      exact ⟨by rw [HR.out]; rfl, HC2.out.below⟩
    · have HR : Hid (gwRes F b s c wt = (gapB b s c wt.toNat, 0)) := Lib.hid (by unfold gwRes; rw [if_pos hq, if_neg h0])
      have h0' : (gapB b s c wt.toNat == 0) = false := by simpa using h0
      clear hq
      go_wp2_with (first
        | (go_at_call 52; refine (beatCode_any F HO.out b HBO.out _ A n 68 _ (gwB F s c wt) _ (HC.out.blk (w.heap.size, F.vals, 32) (by simp)) (Kd.C_below HA.out HC.out.below) (enters_of Try.func68 (by kernel_rfl) rfl) (fun _ w1 hb => gwClo_any F HO.out s c wt _ _ _ _ w1 ((HC.out.step hb).blk (w.heap.size, F.vals, 32) (by simp)) ((HC.out.step hb).blk (w.heap.size + 1, [.int .i64 s], 2) (by simp)) ((HC.out.step hb).blk (w.heap.size + 1 + 1, [.int .i64 c], 2) (by simp)) ((HC.out.step hb).blk (w.heap.size + 1 + 1 + 1, [.int .i64 wt], 2) (by simp)))).mono ?_; rintro e w2 ⟨rfl, hb⟩; rw [HQ.out]; have HC1 := Lib.hid (HC.out.step hb); clear hb; have k1 : w2.cell? ⟨w.heap.size + 1, 0, none⟩ = some (.int .i64 s) := (HC1.out.blk (w.heap.size + 1, [.int .i64 s], 2) (by simp)).cell rfl; have k2 : w2.cell? ⟨w.heap.size + 1 + 1, 0, none⟩ = some (.int .i64 c) := (HC1.out.blk (w.heap.size + 1 + 1, [.int .i64 c], 2) (by simp)).cell rfl; have k3 : w2.cell? ⟨w.heap.size + 1 + 1 + 1, 0, none⟩ = some (.int .i64 wt) := (HC1.out.blk (w.heap.size + 1 + 1 + 1, [.int .i64 wt], 2) (by simp)).cell rfl)
        | (go_at_call 69; rw [← HWT.out]; refine (gapC_any HI.out s A n _ (Kd.C_below HA.out HC1.out.below) HLC.out).mono ?_; rintro e w3 ⟨rfl, hb⟩; have HC2 := Lib.hid (HC1.out.step hb); clear hb))
      go_ret2
      exact ⟨by rw [HR.out]; rfl, HC2.out.below⟩
  · have HR : Hid (gwRes F b s c wt = (0, codeB F b (gwB F s c wt))) := Lib.hid (by unfold gwRes; rw [if_neg hq])
    have hq' : (codeB F b (gwB F s c wt) != 0) = true := by simpa using hq
    go_wp2_with (first
      | (go_at_call 52; refine (beatCode_any F HO.out b HBO.out _ A n 68 _ (gwB F s c wt) _ (HC.out.blk (w.heap.size, F.vals, 32) (by simp)) (Kd.C_below HA.out HC.out.below) (enters_of Try.func68 (by kernel_rfl) rfl) (fun _ w1 hb => gwClo_any F HO.out s c wt _ _ _ _ w1 ((HC.out.step hb).blk (w.heap.size, F.vals, 32) (by simp)) ((HC.out.step hb).blk (w.heap.size + 1, [.int .i64 s], 2) (by simp)) ((HC.out.step hb).blk (w.heap.size + 1 + 1, [.int .i64 c], 2) (by simp)) ((HC.out.step hb).blk (w.heap.size + 1 + 1 + 1, [.int .i64 wt], 2) (by simp)))).mono ?_; rintro e w2 ⟨rfl, hb⟩; have HC1 := Lib.hid (HC.out.step hb); clear hb))
    go_ret2
    exact ⟨by rw [HR.out]; rfl, HC1.out.below⟩


set_option maxHeartbeats 2000000 in
theorem sGapWith_any (F : Fld) (hF : F.Ok) (b : List Int) (hb : BtOk b) (s c wt : Int) (A : Option Addr) (n : Nat) (w : World) (hA : BtAt w A b) (hlc : b.length ≤ n) :
    Calls Try.prog 32 #[.agg F.vals.toArray, .slice A b.length n, .int .i64 s, .int .i64 c, .int .i64 wt] w fun e w' => e = .returned (.tuple #[.int .i64 (gwRes F b s c wt).1, .int .i64 (gwRes F b s c wt).2]) ∧ Below w.heap.size w w' := by
  have HO := Lib.hid hF
  have HBO := Lib.hid hb
  have HA := Lib.hid hA
  have HLC := Lib.hid hlc
  clear hF hb hA hlc
  go_enter Try.func32, Try.ntmps32
  go_upto_region 1 with (fail)
  obtain ⟨W, hW⟩ : ∃ W, W = w.alloc (.cells F.vals.toArray 32) := ⟨_, rfl⟩
  have HC := Lib.hid (boxed1 w F.vals 32)
  rw [← hW] at HC ⊢
  clear hW
  by_cases hq : codeB F b (gwB F s c wt) = 0
  · obtain ⟨hv, hgw⟩ := codeB_zero hq
    have hgw' := hgw
    unfold gwB at hgw'
    rw [Bool.and_eq_true, Bool.and_eq_true] at hgw'
    obtain ⟨hI, hwt⟩ := btIn_of hv hgw'.2.1 hgw'.2.2
    have HI := Lib.hid hI
    have HWT := Lib.hid hwt
    have HQ := Lib.hid hq
    have HH := Lib.hid hgw'.2.1
    have HW := Lib.hid hgw'.2.2
    have HE : Hid (codeB F b (inB s 0 50 && true) = codeB F b (gwB F s c wt)) := Lib.hid (by unfold gwB; rw [HH.out, HW.out]; rfl)
    clear hv hgw hgw' hI hwt
    by_cases h0 : gapB b s c wt.toNat = 0
    · have HR : Hid (gwRes F b s c wt = (0, 6)) := Lib.hid (by unfold gwRes; rw [if_pos hq, if_pos h0])
      have HG := Lib.hid h0
      clear hq h0
      go_wp2_with (first
        | (go_at_call 63; refine (is_any F _ c _ (HC.out.blk (w.heap.size, F.vals, 32) (by simp)) HO.out).mono ?_; rintro e w' ⟨rfl, rfl⟩; rw [HH.out])
        | (go_at_call 50; refine (in_any _ _ _ _).mono ?_; rintro e w' ⟨rfl, rfl⟩; rw [HW.out])
        | (go_at_call 49; refine (l05Asked_any F HO.out b HBO.out _ A n s true _ (HC.out.blk (w.heap.size, F.vals, 32) (by simp)) (Kd.C_below HA.out HC.out.below)).mono ?_; rintro e w2 ⟨rfl, m, hw⟩; rw [HE.out, HQ.out]; have HC1 : Hid (Cls w [(w.heap.size, F.vals, 32)] w2) := Lib.hid (HC.out.step (by rw [hw]; exact below_drewN (Below.refl _ _) _)); clear hw)
        | (go_at_call 67; rw [← HWT.out]; refine (sgapC_any HI.out s A n _ (Kd.C_below HA.out HC1.out.below) HLC.out).mono ?_; rintro e w3 ⟨rfl, hb⟩; rw [HG.out]; have HC2 := Lib.hid (HC1.out.step hb); clear hb))
      go_ret2
      exact ⟨by rw [HR.out]; rfl, HC2.out.below⟩
    · have HR : Hid (gwRes F b s c wt = (gapB b s c wt.toNat, 0)) := Lib.hid (by unfold gwRes; rw [if_pos hq, if_neg h0])
      have h0' : (gapB b s c wt.toNat == 0) = false := by simpa using h0
      clear hq
      go_wp2_with (first
        | (go_at_call 63; refine (is_any F _ c _ (HC.out.blk (w.heap.size, F.vals, 32) (by simp)) HO.out).mono ?_; rintro e w' ⟨rfl, rfl⟩; rw [HH.out])
        | (go_at_call 50; refine (in_any _ _ _ _).mono ?_; rintro e w' ⟨rfl, rfl⟩; rw [HW.out])
        | (go_at_call 49; refine (l05Asked_any F HO.out b HBO.out _ A n s true _ (HC.out.blk (w.heap.size, F.vals, 32) (by simp)) (Kd.C_below HA.out HC.out.below)).mono ?_; rintro e w2 ⟨rfl, m, hw⟩; rw [HE.out, HQ.out]; have HC1 : Hid (Cls w [(w.heap.size, F.vals, 32)] w2) := Lib.hid (HC.out.step (by rw [hw]; exact below_drewN (Below.refl _ _) _)); clear hw)
        | (go_at_call 67; rw [← HWT.out]; refine (sgapC_any HI.out s A n _ (Kd.C_below HA.out HC1.out.below) HLC.out).mono ?_; rintro e w3 ⟨rfl, hb⟩; have HC2 := Lib.hid (HC1.out.step hb); clear hb))
      go_ret2
      exact ⟨by rw [HR.out]; rfl, HC2.out.below⟩
  · have HR : Hid (gwRes F b s c wt = (0, codeB F b (gwB F s c wt))) := Lib.hid (by unfold gwRes; rw [if_neg hq])
    have hq' : (codeB F b (gwB F s c wt) != 0) = true := by simpa using hq
    cases hh : F.has c
    · have HH := Lib.hid hh
      clear hh
      have HE : Hid (codeB F b (inB s 0 50 && false) = codeB F b (gwB F s c wt)) := Lib.hid (by unfold gwB; rw [HH.out]; rfl)
      go_wp2_with (first
        | (go_at_call 63; refine (is_any F _ c _ (HC.out.blk (w.heap.size, F.vals, 32) (by simp)) HO.out).mono ?_; rintro e w' ⟨rfl, rfl⟩; rw [HH.out])
        | (go_at_call 49; refine (l05Asked_any F HO.out b HBO.out _ A n s false _ (HC.out.blk (w.heap.size, F.vals, 32) (by simp)) (Kd.C_below HA.out HC.out.below)).mono ?_; rintro e w2 ⟨rfl, m, hw⟩; rw [HE.out]; have HC1 : Hid (Cls w [(w.heap.size, F.vals, 32)] w2) := Lib.hid (HC.out.step (by rw [hw]; exact below_drewN (Below.refl _ _) _)); clear hw))
      go_ret2
      exact ⟨by rw [HR.out]; rfl, HC1.out.below⟩
    · have HH := Lib.hid hh
      clear hh
      cases hw : inB wt 1 8
      · have HW := Lib.hid hw
        clear hw
        have HE : Hid (codeB F b (inB s 0 50 && false) = codeB F b (gwB F s c wt)) := Lib.hid (by unfold gwB; rw [HH.out, HW.out]; rfl)
        go_wp2_with (first
          | (go_at_call 63; refine (is_any F _ c _ (HC.out.blk (w.heap.size, F.vals, 32) (by simp)) HO.out).mono ?_; rintro e w' ⟨rfl, rfl⟩; rw [HH.out])
          | (go_at_call 50; refine (in_any _ _ _ _).mono ?_; rintro e w' ⟨rfl, rfl⟩; rw [HW.out])
          | (go_at_call 49; refine (l05Asked_any F HO.out b HBO.out _ A n s false _ (HC.out.blk (w.heap.size, F.vals, 32) (by simp)) (Kd.C_below HA.out HC.out.below)).mono ?_; rintro e w2 ⟨rfl, m, hw⟩; rw [HE.out]; have HC1 : Hid (Cls w [(w.heap.size, F.vals, 32)] w2) := Lib.hid (HC.out.step (by rw [hw]; exact below_drewN (Below.refl _ _) _)); clear hw))
        go_ret2
        exact ⟨by rw [HR.out]; rfl, HC1.out.below⟩
      · have HW := Lib.hid hw
        clear hw
        have HE : Hid (codeB F b (inB s 0 50 && true) = codeB F b (gwB F s c wt)) := Lib.hid (by unfold gwB; rw [HH.out, HW.out]; rfl)
        go_wp2_with (first
          | (go_at_call 63; refine (is_any F _ c _ (HC.out.blk (w.heap.size, F.vals, 32) (by simp)) HO.out).mono ?_; rintro e w' ⟨rfl, rfl⟩; rw [HH.out])
          | (go_at_call 50; refine (in_any _ _ _ _).mono ?_; rintro e w' ⟨rfl, rfl⟩; rw [HW.out])
          | (go_at_call 49; refine (l05Asked_any F HO.out b HBO.out _ A n s true _ (HC.out.blk (w.heap.size, F.vals, 32) (by simp)) (Kd.C_below HA.out HC.out.below)).mono ?_; rintro e w2 ⟨rfl, m, hw⟩; rw [HE.out]; have HC1 : Hid (Cls w [(w.heap.size, F.vals, 32)] w2) := Lib.hid (HC.out.step (by rw [hw]; exact below_drewN (Below.refl _ _) _)); clear hw))
        go_ret2
        exact ⟨by rw [HR.out]; rfl, HC1.out.below⟩


set_option maxHeartbeats 2000000 in
theorem iGapOf_any (F : Fld) (hF : F.Ok) (b : List Int) (hb : BtOk b) (s c : Int) (A : Option Addr) (n : Nat) (w : World) (hA : BtAt w A b) (hlc : b.length ≤ n) :
    Calls Try.prog 35 #[.agg F.vals.toArray, .slice A b.length n, .int .i64 s, .int .i64 c] w fun e w' => e = .returned (.tuple #[.int .i64 (gwRes F b s c 1).1, .int .i64 (gwRes F b s c 1).2]) ∧ Below w.heap.size w w' := by
  have HO := Lib.hid hF
  have HBO := Lib.hid hb
  have HA := Lib.hid hA
  have HLC := Lib.hid hlc
  clear hF hb hA hlc
  go_enter Try.func35, Try.ntmps35
  go_upto_region 1 with (fail)
  obtain ⟨W, hW⟩ : ∃ W, W = w.alloc (.cells F.vals.toArray 32) := ⟨_, rfl⟩
  have HC := Lib.hid (boxed1 w F.vals 32)
  rw [← hW] at HC ⊢
  clear hW
  go_wp2_with (first
    | (with_reducible refine wpList_load_blk rfl 32 (.tmp 4) rfl _ 0 rfl F.vals _ (HC.out.blk (w.heap.size, F.vals, 32) (by simp)) (by rw [List.drop_zero, List.take_length]) Try.underlying32 rfl (by rw [HO.out.len]; kernel_rfl) ?_)
    | (go_at_call 33; refine (iGapWith_any F HO.out b HBO.out s c 1 A n _ (Kd.C_below HA.out HC.out.below) HLC.out).mono ?_; rintro e w1 ⟨rfl, hb⟩; have HC1 := Lib.hid (HC.out.step hb); clear hb))
  go_ret2
  exact ⟨rfl, HC1.out.below⟩


set_option maxHeartbeats 2000000 in
theorem sGapOf_any (F : Fld) (hF : F.Ok) (b : List Int) (hb : BtOk b) (s c : Int) (A : Option Addr) (n : Nat) (w : World) (hA : BtAt w A b) (hlc : b.length ≤ n) :
    Calls Try.prog 34 #[.agg F.vals.toArray, .slice A b.length n, .int .i64 s, .int .i64 c] w fun e w' => e = .returned (.tuple #[.int .i64 (gwRes F b s c 1).1, .int .i64 (gwRes F b s c 1).2]) ∧ Below w.heap.size w w' := by
  have HO := Lib.hid hF
  have HBO := Lib.hid hb
  have HA := Lib.hid hA
  have HLC := Lib.hid hlc
  clear hF hb hA hlc
  go_enter Try.func34, Try.ntmps34
  go_upto_region 1 with (fail)
  obtain ⟨W, hW⟩ : ∃ W, W = w.alloc (.cells F.vals.toArray 32) := ⟨_, rfl⟩
  have HC := Lib.hid (boxed1 w F.vals 32)
  rw [← hW] at HC ⊢
  clear hW
  go_wp2_with (first
    | (with_reducible refine wpList_load_blk rfl 32 (.tmp 4) rfl _ 0 rfl F.vals _ (HC.out.blk (w.heap.size, F.vals, 32) (by simp)) (by rw [List.drop_zero, List.take_length]) Try.underlying32 rfl (by rw [HO.out.len]; kernel_rfl) ?_)
    | (go_at_call 32; refine (sGapWith_any F HO.out b HBO.out s c 1 A n _ (Kd.C_below HA.out HC.out.below) HLC.out).mono ?_; rintro e w1 ⟨rfl, hb⟩; have HC1 := Lib.hid (HC.out.step hb); clear hb))
  go_ret2
  exact ⟨rfl, HC1.out.below⟩

end Go.Proofs.Ytmhkechkkpppaaa
