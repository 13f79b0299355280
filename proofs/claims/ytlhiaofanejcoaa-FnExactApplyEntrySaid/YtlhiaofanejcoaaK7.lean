/- ApplyEntry, by the program and by the reference: the same. No condition but that the numbers are within their kinds. -/
import Derived.Test.YtlhiaofanejcoaaK6
import Derived.Test.YtlhiaofanejcoaaL3
namespace Go.Proofs.Ytlhiaofanejcoaa
open Go.RowKit Go.Proofs.YtlhiaofanejcoaaW.PrintWords Go.Proofs.YtlhiaofanejcoaaW.PrintLast Go.Proofs.YtlhiaofanejcoaaW.PrintMore Go.Proofs.Ytlhiaofanejcoaa.PAll
set_option linter.unusedSimpArgs false
set_option linter.unusedVariables false

noncomputable def entRes (F : Fld) (x : S73) : Fld × Int := if F.valid = true then (if appCode F x = 0 then (appF F x, 0) else (zfld, appCode F x)) else (zfld, 1)
theorem appF_ok {F : Fld} (h : F.Ok) (hV : F.Valid) {x : S73} (hx : EntOk x) : (appF F x).Ok := by
  unfold appF
  split
  case isTrue hc =>
    have hk : (entPlain x && F.has x.f1) = true := by
      unfold appCode at hc
      split at hc
      · assumption
      · simp at hc
    rw [Bool.and_eq_true] at hk
    obtain ⟨k, hk1, hk2⟩ := has_nat hk.2
    have hp := hk.1
    unfold entPlain at hp
    simp only [Bool.and_eq_true, inB_iff] at hp
    have hc' := hV.c x.f1.toNat (by omega)
    have s0 := hc'.s0
    have s1 := hc'.s1
    refine setSeed_ok h _ ?_ ?_
    · split <;> omega
    · split <;> omega
  case isFalse => exact h
theorem entRes_ok {F : Fld} (h : F.Ok) {x : S73} (hx : EntOk x) : (entRes F x).1.Ok := by
  unfold entRes
  split
  case isTrue hv =>
    split
    · exact appF_ok h (Fld.valid_iff.1 hv) hx
    · exact zfld_ok
  case isFalse => exact zfld_ok
theorem zeroFld (w : World) : (zeroValue 30).run Try.prog w = .ok (.agg zfld.vals.toArray) w := (zero_of_info (by kernel_rfl : (Try.prog.info? 30).map (fun i => (i.zero, i.size)) = some (some (.agg zfld.vals.toArray), 202))).1 w

set_option maxHeartbeats 2000000 in
theorem iApply_any (F : Fld) (hF : F.Ok) (x : S73) (hx : EntOk x) (w : World) :
    Calls Try.prog 46 #[.agg F.vals.toArray, .agg (entVals x).toArray] w fun e w' => e = .returned (.tuple #[.agg (entRes F x).1.vals.toArray, .int .i64 (entRes F x).2]) ∧ Below w.heap.size w w' := by
  have HO := Lib.hid hF
  have HX := Lib.hid hx
  clear hF hx
  have hz := zeroFld
  go_enter Try.func46, Try.ntmps46
  go_upto_region 1 with (fail)
  obtain ⟨W, hW⟩ : ∃ W, W = ((w.alloc (.cells F.vals.toArray 30)).alloc (.cells (entVals x).toArray 73)).alloc (.cells zfld.vals.toArray 30) := ⟨_, rfl⟩
  have HC := Lib.hid (boxed3 w F.vals (entVals x) zfld.vals 30 73 30)
  rw [← hW] at HC ⊢
  clear hW
  cases hv : F.valid
  · have HV := Lib.hid hv
    have HR : Hid (entRes F x = (zfld, 1)) := Lib.hid (by unfold entRes; rw [if_neg (by rw [hv]; decide)])
    clear hv
    go_wp2_with (first
      | (with_reducible refine wpList_load_blk rfl 30 (.tmp 2) rfl _ 0 rfl F.vals _ (HC.out.blk (w.heap.size, F.vals, 30) (by simp)) (by rw [List.drop_zero, List.take_length]) Try.underlying30 rfl (by rw [HO.out.len]; kernel_rfl) ?_)
      | (go_at_call 58; (with_reducible refine (validField_any F HO.out _).mono ?_); rintro e w1 ⟨rfl, hb⟩; rw [HV.out]; have HC1 := Lib.hid (HC.out.step hb); clear hb)
      | (with_reducible refine wpList_store_all rfl 30 (.tmp 4) (.tmp 10) rfl _ zfld.vals rfl rfl (HC1.out.blk (w.heap.size + 1 + 1, zfld.vals, 30) (by simp)) rfl (by rw [zfld_ok.len]; kernel_rfl) zfld.one ?_))
    rw [HR.out]
    exact post_blk2 (p := 4) (q := 5) (T := 30) rfl rfl rfl rfl ((HC1.out.blk (w.heap.size + 1 + 1, zfld.vals, 30) (by simp)).row _) Try.underlying30 rfl (by rw [zfld_ok.len]; kernel_rfl) ⟨rfl, below_setRow HC1.out.below (by omega) _⟩
  · have HV := Lib.hid hv
    have HVV := Lib.hid (Fld.valid_iff.1 hv)
    by_cases hc : appCode F x = 0
    · have HR : Hid (entRes F x = (appF F x, 0)) := Lib.hid (by unfold entRes; rw [if_pos hv, if_pos hc])
      have HAC := Lib.hid hc
      have HL := Lib.hid (appF_ok HO.out HVV.out HX.out).len
      clear hv hc
      go_wp2_with (first
        | ((with_reducible refine gate_op (.load 30 (.tmp 2)) rfl ?_); (with_reducible refine gate_dst (N := 7) rfl ?_); (with_reducible refine wpList_load_blk rfl 30 (.tmp 2) rfl _ 0 rfl F.vals _ (HC.out.blk (w.heap.size, F.vals, 30) (by simp)) (by rw [List.drop_zero, List.take_length]) Try.underlying30 rfl (by rw [HO.out.len]; kernel_rfl) ?_))
        | (go_at_call 58; (with_reducible refine (validField_any F HO.out _).mono ?_); rintro e w1 ⟨rfl, hb⟩; rw [HV.out]; have HC1 := Lib.hid (HC.out.step hb); clear hb)
        | (with_reducible refine wpList_load_blk rfl 73 (.tmp 3) rfl _ 0 rfl (entVals x) _ (HC1.out.blk (w.heap.size + 1, entVals x, 73) (by simp)) rfl Try.underlying73 rfl (by kernel_rfl) ?_)
        | (go_at_call 82; refine (apply_any F HO.out HVV.out x HX.out w.heap.size _ (HC1.out.blk (w.heap.size, F.vals, 30) (by simp))).mono ?_; rintro e w2 ⟨rfl, hf2, hk2⟩; rw [HAC.out]; have HF2 := Lib.hid hf2; have HK2 := Lib.hid hk2; have HT2 := Lib.hid (hk2.blk (HC1.out.blk (w.heap.size + 1 + 1, zfld.vals, 30) (by simp)) (show w.heap.size + 1 + 1 ≠ w.heap.size by omega)); clear hf2 hk2)
        | ((with_reducible refine gate_dst (N := 17) rfl ?_); (with_reducible refine wpList_load_blk rfl 30 (.tmp 2) rfl _ 0 rfl (appF F x).vals _ HF2.out (by rw [List.drop_zero, List.take_length]) Try.underlying30 rfl (by rw [HL.out]; kernel_rfl) ?_))
        | (with_reducible refine wpList_store_all rfl 30 (.tmp 4) (.tmp 17) rfl _ (appF F x).vals rfl rfl HT2.out (by rw [HL.out, zfld_ok.len]) (by rw [HL.out]; kernel_rfl) (appF F x).one ?_))
      rw [HR.out]
      exact post_blk2 (p := 4) (q := 5) (T := 30) rfl rfl rfl rfl (HT2.out.row _) Try.underlying30 rfl (by rw [HL.out]; kernel_rfl) ⟨rfl, below_setRow (HK2.out.below HC1.out.below (Nat.le_refl _) HC1.out.below.size) (by omega) _⟩
    · have HR : Hid (entRes F x = (zfld, appCode F x)) := Lib.hid (by unfold entRes; rw [if_pos hv, if_neg hc])
      have hc' : (appCode F x != 0) = true := by simpa using hc
      have HCC := Lib.hid hc
      clear hv hc
      go_wp2_with (first
        | ((with_reducible refine gate_dst (N := 7) rfl ?_); (with_reducible refine wpList_load_blk rfl 30 (.tmp 2) rfl _ 0 rfl F.vals _ (HC.out.blk (w.heap.size, F.vals, 30) (by simp)) (by rw [List.drop_zero, List.take_length]) Try.underlying30 rfl (by rw [HO.out.len]; kernel_rfl) ?_))
        | (go_at_call 58; (with_reducible refine (validField_any F HO.out _).mono ?_); rintro e w1 ⟨rfl, hb⟩; rw [HV.out]; have HC1 := Lib.hid (HC.out.step hb); clear hb)
        | (with_reducible refine wpList_load_blk rfl 73 (.tmp 3) rfl _ 0 rfl (entVals x) _ (HC1.out.blk (w.heap.size + 1, entVals x, 73) (by simp)) rfl Try.underlying73 rfl (by kernel_rfl) ?_)
        | (go_at_call 82; refine (apply_any F HO.out HVV.out x HX.out w.heap.size _ (HC1.out.blk (w.heap.size, F.vals, 30) (by simp))).mono ?_; rintro e w2 ⟨rfl, _, hk2⟩; have HK2 := Lib.hid hk2; have HT2 := Lib.hid (hk2.blk (HC1.out.blk (w.heap.size + 1 + 1, zfld.vals, 30) (by simp)) (show w.heap.size + 1 + 1 ≠ w.heap.size by omega)); clear hk2)
        | (with_reducible refine wpList_store_all rfl 30 (.tmp 4) (.tmp 15) rfl _ zfld.vals rfl rfl HT2.out rfl (by rw [zfld_ok.len]; kernel_rfl) zfld.one ?_))
      rw [HR.out]
      exact post_blk2 (p := 4) (q := 5) (T := 30) rfl rfl rfl rfl (HT2.out.row _) Try.underlying30 rfl (by rw [zfld_ok.len]; kernel_rfl) ⟨rfl, below_setRow (HK2.out.below HC1.out.below (Nat.le_refl _) HC1.out.below.size) (by omega) _⟩
end Go.Proofs.Ytlhiaofanejcoaa
