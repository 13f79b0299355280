/- ApplyEntry by the reference; two fields held against each other by the law. No condition but that the numbers are within their kinds. -/
import Derived.Test.YtlhiaofanejcoaaK7
import Derived.Test.YtlhiaofanejcoaaL4
namespace Go.Proofs.Ytlhiaofanejcoaa
open Go.RowKit Go.Proofs.YtlhiaofanejcoaaW.PrintWords Go.Proofs.YtlhiaofanejcoaaW.PrintLast Go.Proofs.YtlhiaofanejcoaaW.PrintMore Go.Proofs.Ytlhiaofanejcoaa.PAll
set_option linter.unusedSimpArgs false
set_option linter.unusedVariables false

set_option maxHeartbeats 2000000 in
theorem sApply_any (F : Fld) (hF : F.Ok) (x : S73) (hx : EntOk x) (w : World) :
    Calls Try.prog 44 #[.agg F.vals.toArray, .agg (entVals x).toArray] w fun e w' => e = .returned (.tuple #[.agg (entRes F x).1.vals.toArray, .int .i64 (entRes F x).2]) ∧ Below w.heap.size w w' := by
  have HO := Lib.hid hF
  have HX := Lib.hid hx
  clear hF hx
  have hz := zeroFld
  go_enter Try.func44, Try.ntmps44
  go_upto_region 1 with (fail)
  obtain ⟨W, hW⟩ : ∃ W, W = ((w.alloc (.cells F.vals.toArray 30)).alloc (.cells (entVals x).toArray 73)).alloc (.cells zfld.vals.toArray 30) := ⟨_, rfl⟩
  have HC := Lib.hid (boxed3 w F.vals (entVals x) zfld.vals 30 73 30)
  rw [← hW] at HC ⊢
  clear hW
  cases hv : F.valid
  · have HV := Lib.hid hv
    have HR : Hid (entRes F x = (zfld, 1)) := Lib.hid (by unfold entRes; rw [if_neg (by rw [hv]; decide)])
    clear hv
    go_wp2_with (first
      | (go_at_call 60; (with_reducible refine (l01Ok_any F HO.out _ _ (HC.out.blk (w.heap.size, F.vals, 30) (by simp))).mono ?_); rintro e w1 ⟨rfl, rfl⟩; rw [HV.out]; have HC1 := HC)
      | (with_reducible refine wpList_store_all rfl 30 (.tmp 4) (.tmp 9) rfl _ zfld.vals rfl rfl (HC1.out.blk (w.heap.size + 1 + 1, zfld.vals, 30) (by simp)) rfl (by rw [zfld_ok.len]; kernel_rfl) zfld.one ?_))
    rw [HR.out]
    exact post_blk2 (p := 4) (q := 5) (T := 30) rfl rfl rfl rfl ((HC1.out.blk (w.heap.size + 1 + 1, zfld.vals, 30) (by simp)).row _) Try.underlying30 rfl (by rw [zfld_ok.len]; kernel_rfl) ⟨rfl, below_setRow HC1.out.below (by omega) _⟩
  · have HV := Lib.hid hv
    have HVV := Lib.hid (Fld.valid_iff.1 hv)
    by_cases hc : appCode F x = 0
    · have HR : Hid (entRes F x = (appF F x, 0)) := Lib.hid (by unfold entRes; rw [if_pos hv, if_pos hc])
      have HAC := Lib.hid hc
      have HL := Lib.hid (appF_ok HO.out HVV.out HX.out).len
      clear hv hc
      go_wp2_with (first
        | (go_at_call 60; (with_reducible refine (l01Ok_any F HO.out _ _ (HC.out.blk (w.heap.size, F.vals, 30) (by simp))).mono ?_); rintro e w1 ⟨rfl, rfl⟩; rw [HV.out]; have HC1 := HC)
        | (with_reducible refine wpList_load_blk rfl 73 (.tmp 3) rfl _ 0 rfl (entVals x) _ (HC1.out.blk (w.heap.size + 1, entVals x, 73) (by simp)) rfl Try.underlying73 rfl (by kernel_rfl) ?_)
        | (go_at_call 81; refine (l07Apply_any F HO.out HVV.out x HX.out w.heap.size _ (HC1.out.blk (w.heap.size, F.vals, 30) (by simp))).mono ?_; rintro e w2 ⟨rfl, hf2, hk2⟩; rw [HAC.out]; have HF2 := Lib.hid hf2; have HK2 := Lib.hid hk2; have HT2 := Lib.hid (hk2.blk (HC1.out.blk (w.heap.size + 1 + 1, zfld.vals, 30) (by simp)) (show w.heap.size + 1 + 1 ≠ w.heap.size by omega)); clear hf2 hk2)
        | ((with_reducible refine gate_dst (N := 16) rfl ?_); (with_reducible refine wpList_load_blk rfl 30 (.tmp 2) rfl _ 0 rfl (appF F x).vals _ HF2.out (by rw [List.drop_zero, List.take_length]) Try.underlying30 rfl (by rw [HL.out]; kernel_rfl) ?_))
        | (with_reducible refine wpList_store_all rfl 30 (.tmp 4) (.tmp 16) rfl _ (appF F x).vals rfl rfl HT2.out (by rw [HL.out, zfld_ok.len]) (by rw [HL.out]; kernel_rfl) (appF F x).one ?_))
      rw [HR.out]
      exact post_blk2 (p := 4) (q := 5) (T := 30) rfl rfl rfl rfl (HT2.out.row _) Try.underlying30 rfl (by rw [HL.out]; kernel_rfl) ⟨rfl, below_setRow (HK2.out.below HC1.out.below (Nat.le_refl _) HC1.out.below.size) (by omega) _⟩
    · have HR : Hid (entRes F x = (zfld, appCode F x)) := Lib.hid (by unfold entRes; rw [if_pos hv, if_neg hc])
      have hc' : (appCode F x != 0) = true := by simpa using hc
      have HCC := Lib.hid hc
      clear hv hc
      go_wp2_with (first
        | (go_at_call 60; (with_reducible refine (l01Ok_any F HO.out _ _ (HC.out.blk (w.heap.size, F.vals, 30) (by simp))).mono ?_); rintro e w1 ⟨rfl, rfl⟩; rw [HV.out]; have HC1 := HC)
        | (with_reducible refine wpList_load_blk rfl 73 (.tmp 3) rfl _ 0 rfl (entVals x) _ (HC1.out.blk (w.heap.size + 1, entVals x, 73) (by simp)) rfl Try.underlying73 rfl (by kernel_rfl) ?_)
        | (go_at_call 81; refine (l07Apply_any F HO.out HVV.out x HX.out w.heap.size _ (HC1.out.blk (w.heap.size, F.vals, 30) (by simp))).mono ?_; rintro e w2 ⟨rfl, _, hk2⟩; have HK2 := Lib.hid hk2; have HT2 := Lib.hid (hk2.blk (HC1.out.blk (w.heap.size + 1 + 1, zfld.vals, 30) (by simp)) (show w.heap.size + 1 + 1 ≠ w.heap.size by omega)); clear hk2)
        | (with_reducible refine wpList_store_all rfl 30 (.tmp 4) (.tmp 14) rfl _ zfld.vals rfl rfl HT2.out rfl (by rw [zfld_ok.len]; kernel_rfl) zfld.one ?_))
      rw [HR.out]
      exact post_blk2 (p := 4) (q := 5) (T := 30) rfl rfl rfl rfl (HT2.out.row _) Try.underlying30 rfl (by rw [zfld_ok.len]; kernel_rfl) ⟨rfl, below_setRow (HK2.out.below HC1.out.below (Nat.le_refl _) HC1.out.below.size) (by omega) _⟩
set_option maxHeartbeats 1000000 in
theorem eqBytes_any (xs ys : List Int) (hx : xs.length = 100) (hy : ys.length = 100) (h : xs = ys) (w : World) :
    Calls Try.prog 83 #[.agg (vrow .u8 xs).toArray, .agg (vrow .u8 ys).toArray] w fun e w' => e = .returned (.bool true) ∧ Below w.heap.size w w' := by
  obtain rfl := h
  clear hy
  go_enter Try.func83, Try.ntmps83
  go_upto_region 1 with (fail)
  obtain ⟨W, hW⟩ : ∃ W, W = (w.alloc (.cells (vrow .u8 xs).toArray 23)).alloc (.cells (vrow .u8 xs).toArray 23) := ⟨_, rfl⟩
  have HC := Lib.hid (boxed2 w (vrow .u8 xs) (vrow .u8 xs) 23 23)
  rw [← hW] at HC ⊢
  clear hW
  go_wp2
  go_loopw [5] (fun v wr => ∃ i : Nat, i ≤ 100 ∧ v = .int .i64 i ∧ ∃ n, wr = W.drewN n) (fun v _ => 100 - (intOf v).toNat)
  case atStart => exact ⟨0, by omega, rfl, 0, rfl⟩
  case round =>
    obtain ⟨i, hi, rfl, n, rfl⟩ := hrel
    by_cases hlt : i < 100
    · have c1 := (HC.out.blk (w.heap.size, vrow .u8 xs, 23) (by simp)).cell (vrow_get (k := .u8) (zs := xs) (i := i) (by omega))
      have c2 := (HC.out.blk (w.heap.size + 1, vrow .u8 xs, 23) (by simp)).cell (vrow_get (k := .u8) (zs := xs) (i := i) (by omega))
      have hne : (nth xs i != nth xs i) = false := by simp
      simp only at c1 c2
      go_wp2
      go_quiet (fail)
      go_wp2
      go_roundw
      case rel => exact ⟨i + 1, by omega, by go_num, _, rfl⟩
      case measure => simp [intOf]; omega
    · go_wp2
      go_ret
      exact ⟨rfl, below_drewN HC.out.below _⟩


set_option maxHeartbeats 1000000 in
theorem eqField_any (F : Fld) (hF : F.Ok) (w : World) :
    Calls Try.prog 47 #[.agg F.vals.toArray, .agg F.vals.toArray] w fun e w' => e = .returned (.bool true) ∧ Below w.heap.size w w' := by
  have HO := Lib.hid hF
  clear hF
  go_enter Try.func47, Try.ntmps47
  go_upto_region 1 with (fail)
  obtain ⟨W, hW⟩ : ∃ W, W = (w.alloc (.cells F.vals.toArray 30)).alloc (.cells F.vals.toArray 30) := ⟨_, rfl⟩
  have HC := Lib.hid (boxed2 w F.vals F.vals 30 30)
  rw [← hW] at HC ⊢
  clear hW
  have HA := Lib.hid (HC.out.blk (w.heap.size, F.vals, 30) (by simp))
  have HB := Lib.hid (HC.out.blk (w.heap.size + 1, F.vals, 30) (by simp))
  have a0 := IsF.c0 HA.out
  have a1 := IsF.c1 HA.out
  have b0 := IsF.c0 HB.out
  have b1 := IsF.c1 HB.out
  have e0 : (F.wide != F.wide) = false := by simp
  have e1 : (F.high != F.high) = false := by simp
  simp only at a0 a1 b0 b1
  go_wp2_with (first
    | (with_reducible refine wpList_load_blk rfl 23 (.tmp 15) rfl _ 2 rfl (vrow .u8 F.kinds) _ HA.out HO.out.kpart Try.underlying23 rfl (by rw [vrow_len, HO.out.kl]; kernel_rfl) ?_)
    | (with_reducible refine wpList_load_blk rfl 23 (.tmp 17) rfl _ 2 rfl (vrow .u8 F.kinds) _ HB.out HO.out.kpart Try.underlying23 rfl (by rw [vrow_len, HO.out.kl]; kernel_rfl) ?_)
    | (go_at_call 83; (with_reducible refine (eqBytes_any _ _ HO.out.kl HO.out.kl rfl _).mono ?_); rintro e w4 ⟨rfl, hb⟩; have HC2 := Lib.hid (HC.out.step hb); clear hb; have HA2 := Lib.hid (HC2.out.blk (w.heap.size, F.vals, 30) (by simp)); have HB2 := Lib.hid (HC2.out.blk (w.heap.size + 1, F.vals, 30) (by simp)))
    | (with_reducible refine wpList_load_blk rfl 25 (.tmp 21) rfl _ 102 rfl (vrow .i16 F.seeds) _ HA2.out HO.out.spart Try.underlying25 rfl (by rw [vrow_len, HO.out.sl]; kernel_rfl) ?_)
    | (with_reducible refine wpList_load_blk rfl 25 (.tmp 23) rfl _ 102 rfl (vrow .i16 F.seeds) _ HB2.out HO.out.spart Try.underlying25 rfl (by rw [vrow_len, HO.out.sl]; kernel_rfl) ?_)
    | (go_at_call 26; (with_reducible refine (eqInt16s_any _ _ HO.out.sl HO.out.sl rfl _).mono ?_); rintro e w5 ⟨rfl, hb⟩; have HC3 := Lib.hid (HC2.out.step hb); clear hb))
  go_ret
  exact ⟨rfl, HC3.out.below⟩
end Go.Proofs.Ytlhiaofanejcoaa
