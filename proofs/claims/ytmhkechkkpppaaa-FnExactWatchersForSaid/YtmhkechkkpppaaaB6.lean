/- WorstGap, by the program and by the reference: the same. No condition but that the numbers are within their kinds. -/
import Derived.Test.YtmhkechkkpppaaaB5
namespace Go.Proofs.Ytmhkechkkpppaaa
open Go.RowKit Go.Proofs.YtmhkechkkpppaaaW.PrintWords Go.Proofs.YtmhkechkkpppaaaW.PrintLast Go.Proofs.YtmhkechkkpppaaaW.PrintMore Go.Proofs.Ytmhkechkkpppaaa.PAll
set_option linter.unusedSimpArgs false
set_option linter.unusedVariables false

theorem wor_ok {F : Fld} {b : List Int} (hv : (F.valid && onF F b) = true) (s : Int) (wt : Nat) (h1 : 1 ≤ wt) (h2 : wt ≤ 8) (U : List Int) : (worS F b s wt U).2.2 = (worI F b s wt U).2.2 ∧ ((worI F b s wt U).2.2 = true → worS F b s wt U = worI F b s wt U) :=
  wor_same fun k hk _ => (gapB_bd (btIn_at hv hk h1 h2)).1
noncomputable def wgRes (F : Fld) (b : List Int) (s : Int) (U : List Int) : Int × Int × Int := if codeB F b (inB s 0 50) = 0 then (if (worI F b s 1 U).2.2 = true then ((worI F b s 1 U).1, (worI F b s 1 U).2.1, 0) else (0, 0, 6)) else (0, 0, codeB F b (inB s 0 50))
theorem wgClo_any (s : Int) (d1 : Nat) (w : World) (h1 : Blk w d1 [.int .i64 s] 2) : Calls Try.prog 75 #[.pointer (some ⟨d1, 0, none⟩)] w fun e w' => e = .returned (.bool (inB s 0 50)) ∧ Below w.heap.size w w' := by
  have c1 := h1.cell (i := 0) rfl
  clear h1
  go_enter Try.func75, Try.ntmps75
  go_wp2_with (go_at_call 54; refine (isSight_any _ _).mono ?_; rintro e w' ⟨rfl, rfl⟩)
  go_ret
  exact ⟨rfl, Below.refl _ _⟩


set_option maxHeartbeats 2000000 in
theorem iWorstGap_any (F : Fld) (hF : F.Ok) (b : List Int) (hb : BtOk b) (s : Int) (U : List Int) (hU : ClOk U) (A : Option Addr) (n : Nat) (w : World) (hA : BtAt w A b) (hlc : b.length ≤ n) :
    Calls Try.prog 41 #[.agg F.vals.toArray, .slice A b.length n, .int .i64 s, .agg (vrow .u64 U).toArray] w fun e w' => e = .returned (.tuple #[.int .i64 (wgRes F b s U).1, .int .i64 (wgRes F b s U).2.1, .int .i64 (wgRes F b s U).2.2]) ∧ Below w.heap.size w w' := by
  have HO := Lib.hid hF
  have HBO := Lib.hid hb
  have HA := Lib.hid hA
  have HUL := Lib.hid hU.len
  have HU := Lib.hid hU
  have HLC := Lib.hid hlc
  clear hF hb hA hlc hU
  have hmf : ∀ (fn : Fn) (first cap : Array Value) (w : World), (Instr.makeFunc fn first cap).run Try.prog w = .ok (.func fn first cap) w := fun _ _ _ _ => rfl
  go_enter Try.func41, Try.ntmps41
  go_upto_region 1 with (fail)
  obtain ⟨W, hW⟩ : ∃ W, W = ((w.alloc (.cells F.vals.toArray 32)).alloc (.cells [Value.int .i64 s].toArray 2)).alloc (.cells (vrow .u64 U).toArray 40) := ⟨_, rfl⟩
  have HC := Lib.hid (boxed3 w F.vals [.int .i64 s] (vrow .u64 U) 32 2 40)
  rw [← hW] at HC ⊢
  clear hW
  by_cases hq : codeB F b (inB s 0 50) = 0
  · have HQ := Lib.hid hq
    have HWO := Lib.hid (fun (w1 : World) (hb : Below w.heap.size w w1) (hf : IsF w1 w.heap.size F) => iWorst_any F HO.out b (codeB_zero hq).1 s 1 (by omega) (by omega) U HU.out w.heap.size A n w1 hf (Kd.C_below HA.out hb) HLC.out)
    have HR0 : Hid (wgRes F b s U = if (worI F b s 1 U).2.2 = true then ((worI F b s 1 U).1, (worI F b s 1 U).2.1, 0) else (0, 0, 6)) := Lib.hid (by unfold wgRes; rw [if_pos hq])
    clear hq
    generalize worI F b s 1 U = V at *
    cases hk : V.2.2
    · have HVK := Lib.hid hk
      have HR : Hid (wgRes F b s U = (0, 0, 6)) := Lib.hid (by rw [HR0.out, hk]; rfl)
      clear hk
      go_wp2_with (first
        | (go_at_call 52; refine (beatCode_any F HO.out b HBO.out _ A n 75 _ (inB s 0 50) _ (HC.out.blk (w.heap.size, F.vals, 32) (by simp)) (Kd.C_below HA.out HC.out.below) (enters_of Try.func75 (by kernel_rfl) rfl) (fun _ w1 hb => wgClo_any s _ w1 ((HC.out.step hb).blk (w.heap.size + 1, [.int .i64 s], 2) (by simp)))).mono ?_; rintro e w2 ⟨rfl, hb⟩; rw [HQ.out]; have HC1 := Lib.hid (HC.out.step hb); clear hb; have k1 : w2.cell? ⟨w.heap.size + 1, 0, none⟩ = some (.int .i64 s) := (HC1.out.blk (w.heap.size + 1, [.int .i64 s], 2) (by simp)).cell rfl)
        | (with_reducible refine wpList_load_blk rfl 40 (.tmp 7) rfl _ 0 rfl (vrow .u64 U) _ (HC1.out.blk (w.heap.size + 1 + 1, vrow .u64 U, 40) (by simp)) (by rw [List.drop_zero, List.take_length]) Try.underlying40 rfl (by rw [vrow_len, HUL.out]; kernel_rfl) ?_)
        | (go_at_call 76; refine (HWO.out _ HC1.out.below (HC1.out.blk (w.heap.size, F.vals, 32) (by simp))).mono ?_; rintro e w3 ⟨rfl, hb⟩; have HC2 := Lib.hid (HC1.out.step hb); clear hb; rw [HVK.out]))
      go_ret3
      rw [HR.out]
      exact ⟨rfl, HC2.out.below⟩
    · have HVK := Lib.hid hk
      have HR : Hid (wgRes F b s U = (V.1, V.2.1, 0)) := Lib.hid (by rw [HR0.out, hk]; rfl)
      clear hk
      go_wp2_with (first
        | (go_at_call 52; refine (beatCode_any F HO.out b HBO.out _ A n 75 _ (inB s 0 50) _ (HC.out.blk (w.heap.size, F.vals, 32) (by simp)) (Kd.C_below HA.out HC.out.below) (enters_of Try.func75 (by kernel_rfl) rfl) (fun _ w1 hb => wgClo_any s _ w1 ((HC.out.step hb).blk (w.heap.size + 1, [.int .i64 s], 2) (by simp)))).mono ?_; rintro e w2 ⟨rfl, hb⟩; rw [HQ.out]; have HC1 := Lib.hid (HC.out.step hb); clear hb; have k1 : w2.cell? ⟨w.heap.size + 1, 0, none⟩ = some (.int .i64 s) := (HC1.out.blk (w.heap.size + 1, [.int .i64 s], 2) (by simp)).cell rfl)
        | (with_reducible refine wpList_load_blk rfl 40 (.tmp 7) rfl _ 0 rfl (vrow .u64 U) _ (HC1.out.blk (w.heap.size + 1 + 1, vrow .u64 U, 40) (by simp)) (by rw [List.drop_zero, List.take_length]) Try.underlying40 rfl (by rw [vrow_len, HUL.out]; kernel_rfl) ?_)
        | (go_at_call 76; refine (HWO.out _ HC1.out.below (HC1.out.blk (w.heap.size, F.vals, 32) (by simp))).mono ?_; rintro e w3 ⟨rfl, hb⟩; have HC2 := Lib.hid (HC1.out.step hb); clear hb; rw [HVK.out]))
      go_ret3
      rw [HR.out]
      exact ⟨rfl, HC2.out.below⟩
  · have HR : Hid (wgRes F b s U = (0, 0, codeB F b (inB s 0 50))) := Lib.hid (by unfold wgRes; rw [if_neg hq])
    have hq' : (codeB F b (inB s 0 50) != 0) = true := by simpa using hq
    go_wp2_with (first
      | (go_at_call 52; refine (beatCode_any F HO.out b HBO.out _ A n 75 _ (inB s 0 50) _ (HC.out.blk (w.heap.size, F.vals, 32) (by simp)) (Kd.C_below HA.out HC.out.below) (enters_of Try.func75 (by kernel_rfl) rfl) (fun _ w1 hb => wgClo_any s _ w1 ((HC.out.step hb).blk (w.heap.size + 1, [.int .i64 s], 2) (by simp)))).mono ?_; rintro e w2 ⟨rfl, hb⟩; have HC1 := Lib.hid (HC.out.step hb); clear hb; have k1 : w2.cell? ⟨w.heap.size + 1, 0, none⟩ = some (.int .i64 s) := (HC1.out.blk (w.heap.size + 1, [.int .i64 s], 2) (by simp)).cell rfl))
    go_ret3
    rw [HR.out]
    exact ⟨rfl, HC1.out.below⟩


set_option maxHeartbeats 2000000 in
theorem sWorstGap_any (F : Fld) (hF : F.Ok) (b : List Int) (hb : BtOk b) (s : Int) (U : List Int) (hU : ClOk U) (A : Option Addr) (n : Nat) (w : World) (hA : BtAt w A b) (hlc : b.length ≤ n) :
    Calls Try.prog 39 #[.agg F.vals.toArray, .slice A b.length n, .int .i64 s, .agg (vrow .u64 U).toArray] w fun e w' => e = .returned (.tuple #[.int .i64 (wgRes F b s U).1, .int .i64 (wgRes F b s U).2.1, .int .i64 (wgRes F b s U).2.2]) ∧ Below w.heap.size w w' := by
  have HO := Lib.hid hF
  have HBO := Lib.hid hb
  have HA := Lib.hid hA
  have HU := Lib.hid hU
  have HLC := Lib.hid hlc
  clear hF hb hA hlc hU
  go_enter Try.func39, Try.ntmps39
  go_upto_region 1 with (fail)
  obtain ⟨W, hW⟩ : ∃ W, W = (w.alloc (.cells F.vals.toArray 32)).alloc (.cells (vrow .u64 U).toArray 40) := ⟨_, rfl⟩
  have HC := Lib.hid (boxed2 w F.vals (vrow .u64 U) 32 40)
  rw [← hW] at HC ⊢
  clear hW
  by_cases hq : codeB F b (inB s 0 50) = 0
  · have HQ := Lib.hid hq
    have HWO := Lib.hid (fun (w1 : World) (hb : Below w.heap.size w w1) (hf : IsF w1 w.heap.size F) (hd : Blk w1 (w.heap.size + 1) (vrow .u64 U) 40) => sWorst_any F HO.out b (codeB_zero hq).1 s 1 (by omega) (by omega) U HU.out w.heap.size (w.heap.size + 1) A n w1 hf hd (Kd.C_below HA.out hb) HLC.out)
    have HR0 : Hid (wgRes F b s U = if (worI F b s 1 U).2.2 = true then ((worI F b s 1 U).1, (worI F b s 1 U).2.1, 0) else (0, 0, 6)) := Lib.hid (by unfold wgRes; rw [if_pos hq])
    obtain ⟨hw1, hw2⟩ := wor_ok (codeB_zero hq).1 s 1 (by omega) (by omega) U
    have HW1 := Lib.hid hw1
    have HW2 := Lib.hid hw2
    clear hq hw1 hw2
    generalize worI F b s 1 U = V at *
    generalize worS F b s 1 U = X at *
    cases hk : X.2.2
    · have HVK := Lib.hid hk
      have HR : Hid (wgRes F b s U = (0, 0, 6)) := Lib.hid (by rw [HR0.out, ← HW1.out, hk]; rfl)
      clear hk
      go_wp2_with (first
        | (go_at_call 49; refine (l05Asked_any F HO.out b HBO.out _ A n s true _ (HC.out.blk (w.heap.size, F.vals, 32) (by simp)) (Kd.C_below HA.out HC.out.below)).mono ?_; rintro e w2 ⟨rfl, m, hw⟩; rw [Bool.and_true, HQ.out]; have HC1 := Lib.hid (HC.out.step (show Below W.heap.size W w2 by rw [hw]; exact below_drewN (Below.refl _ _) _)); clear hw)
        | (go_at_call 74; refine (HWO.out _ HC1.out.below (HC1.out.blk (w.heap.size, F.vals, 32) (by simp)) (HC1.out.blk (w.heap.size + 1, vrow .u64 U, 40) (by simp))).mono ?_; rintro e w3 ⟨rfl, hb⟩; have HC2 := Lib.hid (HC1.out.step hb); clear hb; rw [HVK.out]))
      go_ret3
      rw [HR.out]
      exact ⟨rfl, HC2.out.below⟩
    · have HVK := Lib.hid hk
      have HR : Hid (wgRes F b s U = (X.1, X.2.1, 0)) := Lib.hid (by rw [HR0.out, ← HW1.out, hk, HW2.out (by rw [← HW1.out, hk])]; rfl)
      clear hk
      go_wp2_with (first
        | (go_at_call 49; refine (l05Asked_any F HO.out b HBO.out _ A n s true _ (HC.out.blk (w.heap.size, F.vals, 32) (by simp)) (Kd.C_below HA.out HC.out.below)).mono ?_; rintro e w2 ⟨rfl, m, hw⟩; rw [Bool.and_true, HQ.out]; have HC1 := Lib.hid (HC.out.step (show Below W.heap.size W w2 by rw [hw]; exact below_drewN (Below.refl _ _) _)); clear hw)
        | (go_at_call 74; refine (HWO.out _ HC1.out.below (HC1.out.blk (w.heap.size, F.vals, 32) (by simp)) (HC1.out.blk (w.heap.size + 1, vrow .u64 U, 40) (by simp))).mono ?_; rintro e w3 ⟨rfl, hb⟩; have HC2 := Lib.hid (HC1.out.step hb); clear hb; rw [HVK.out]))
      go_ret3
      rw [HR.out]
      exact ⟨rfl, HC2.out.below⟩
  · have HR : Hid (wgRes F b s U = (0, 0, codeB F b (inB s 0 50))) := Lib.hid (by unfold wgRes; rw [if_neg hq])
    have hq' : (codeB F b (inB s 0 50) != 0) = true := by simpa using hq
    go_wp2_with (first
      | (go_at_call 49; refine (l05Asked_any F HO.out b HBO.out _ A n s true _ (HC.out.blk (w.heap.size, F.vals, 32) (by simp)) (Kd.C_below HA.out HC.out.below)).mono ?_; rintro e w2 ⟨rfl, m, hw⟩; rw [Bool.and_true]; have HC1 := Lib.hid (HC.out.step (show Below W.heap.size W w2 by rw [hw]; exact below_drewN (Below.refl _ _) _)); clear hw))
    go_ret3
    rw [HR.out]
    exact ⟨rfl, HC1.out.below⟩

end Go.Proofs.Ytmhkechkkpppaaa
