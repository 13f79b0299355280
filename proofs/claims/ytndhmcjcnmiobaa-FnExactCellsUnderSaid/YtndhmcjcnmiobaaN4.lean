/- Nets of a field: ValidNet, EdgeOf and CellsUnder, by the program and by the reference. No condition but that the numbers are within their kinds. -/
import Derived.Test.YtndhmcjcnmiobaaN3
import Derived.Test.YtndhmcjcnmiobaaEC
namespace Go.Proofs.Ytndhmcjcnmiobaa
open Go.RowKit Go.Proofs.YtndhmcjcnmiobaaW.PrintWords Go.Proofs.YtndhmcjcnmiobaaW.PrintLast Go.Proofs.YtndhmcjcnmiobaaW.PrintMore Go.Proofs.Ytndhmcjcnmiobaa.PAll
set_option linter.unusedSimpArgs false
set_option linter.unusedVariables false

noncomputable def netOk (F : Fld) (n : Nt) : Bool := F.valid && netB F n

set_option maxHeartbeats 2000000 in
theorem sValidNet_any (F : Fld) (hF : F.Ok) (n : Nt) (hn : n.Ok) (w : World) :
    Calls Try.prog 15 #[.agg F.vals.toArray, .agg n.vals.toArray] w fun e w' => e = .returned (.bool (netOk F n)) ∧ Below w.heap.size w w' := by
  have HO := Lib.hid hF
  have HN := Lib.hid hn
  clear hF hn
  have hz := zeroCells
  go_enter Try.func15, Try.ntmps15
  go_upto_region 1 with (fail)
  obtain ⟨W, hW⟩ : ∃ W, W = (w.alloc (.cells F.vals.toArray 31)).alloc (.cells n.vals.toArray 40) := ⟨_, rfl⟩
  have HC := Lib.hid (boxed2 w F.vals n.vals 31 40)
  rw [← hW] at HC ⊢
  clear hW
  cases hv : F.valid
  · have HV := Lib.hid hv
    have HR : Hid (netOk F n = false) := Lib.hid (by unfold netOk; rw [hv]; rfl)
    clear hv
    go_wp2_with (first
      | (go_at_call 35; (with_reducible refine (l01Ok_any F HO.out _ _ (HC.out.blk (w.heap.size, F.vals, 31) (by simp))).mono ?_); rintro e w1 ⟨rfl, rfl⟩; rw [HV.out]; have HC1 := HC))
    go_ret
    exact ⟨ret_bool HR.out.symm, HC1.out.below⟩
  · have HV := Lib.hid hv
    have HVV := Lib.hid (Fld.valid_iff.1 hv)
    have HR : Hid (netOk F n = netB F n) := Lib.hid (by unfold netOk; rw [hv]; rfl)
    clear hv
    cases hb : netB F n
    all_goals
      have HB := Lib.hid hb
      clear hb
      go_wp2_with (first
        | (go_at_call 35; (with_reducible refine (l01Ok_any F HO.out _ _ (HC.out.blk (w.heap.size, F.vals, 31) (by simp))).mono ?_); rintro e w1 ⟨rfl, rfl⟩; rw [HV.out]; have HC1 := HC)
        | (with_reducible refine wpList_guard rfl (wpList_load_blk rfl 40 (.tmp 3) rfl _ 0 rfl n.vals _ (HC1.out.blk (w.heap.size + 1, n.vals, 40) (by simp)) rfl Try.underlying40 rfl (by kernel_rfl) ?_))
        | (go_at_call 36; (with_reducible refine (l04Net_any F HO.out n HN.out HVV.out _ _ (HC1.out.blk (w.heap.size, F.vals, 31) (by simp))).mono ?_); rintro e w2 ⟨rfl, hb⟩; rw [HB.out]; have HC2 := Lib.hid (HC1.out.step hb); clear hb))
      go_ret
      exact ⟨ret_bool (by rw [HR.out, HB.out]), HC2.out.below⟩


set_option maxHeartbeats 2000000 in
theorem iValidNet_any (F : Fld) (hF : F.Ok) (n : Nt) (hn : n.Ok) (w : World) :
    Calls Try.prog 17 #[.agg F.vals.toArray, .agg n.vals.toArray] w fun e w' => e = .returned (.bool (netOk F n)) ∧ Below w.heap.size w w' := by
  have HO := Lib.hid hF
  have HN := Lib.hid hn
  clear hF hn
  have hz := zeroCells
  go_enter Try.func17, Try.ntmps17
  go_upto_region 1 with (fail)
  obtain ⟨W, hW⟩ : ∃ W, W = (w.alloc (.cells F.vals.toArray 31)).alloc (.cells n.vals.toArray 40) := ⟨_, rfl⟩
  have HC := Lib.hid (boxed2 w F.vals n.vals 31 40)
  rw [← hW] at HC ⊢
  clear hW
  cases hv : F.valid
  · have HV := Lib.hid hv
    have HR : Hid (netOk F n = false) := Lib.hid (by unfold netOk; rw [hv]; rfl)
    clear hv
    go_wp2_with (first
      | (with_reducible refine wpList_load_blk rfl 31 (.tmp 2) rfl _ 0 rfl F.vals _ (HC.out.blk (w.heap.size, F.vals, 31) (by simp)) (by rw [List.drop_zero, List.take_length]) Try.underlying31 rfl (by rw [HO.out.len]; kernel_rfl) ?_)
      | (go_at_call 32; (with_reducible refine (validField_any F HO.out _).mono ?_); rintro e w1 ⟨rfl, hb⟩; rw [HV.out]; have HC1 := Lib.hid (HC.out.step hb); clear hb))
    go_ret
    exact ⟨ret_bool HR.out.symm, HC1.out.below⟩
  · have HV := Lib.hid hv
    have HVV := Lib.hid (Fld.valid_iff.1 hv)
    have HR : Hid (netOk F n = netB F n) := Lib.hid (by unfold netOk; rw [hv]; rfl)
    clear hv
    cases hb : netB F n
    all_goals
      have HB := Lib.hid hb
      clear hb
      go_wp2_with (first
        | (with_reducible refine wpList_load_blk rfl 31 (.tmp 2) rfl _ 0 rfl F.vals _ (HC.out.blk (w.heap.size, F.vals, 31) (by simp)) (by rw [List.drop_zero, List.take_length]) Try.underlying31 rfl (by rw [HO.out.len]; kernel_rfl) ?_)
        | (go_at_call 32; (with_reducible refine (validField_any F HO.out _).mono ?_); rintro e w1 ⟨rfl, hb⟩; rw [HV.out]; have HC1 := Lib.hid (HC.out.step hb); clear hb)
        | (with_reducible refine wpList_guard rfl (wpList_load_blk rfl 40 (.tmp 3) rfl _ 0 rfl n.vals _ (HC1.out.blk (w.heap.size + 1, n.vals, 40) (by simp)) rfl Try.underlying40 rfl (by kernel_rfl) ?_))
        | (go_at_call 37; (with_reducible refine (isNet_any F HO.out n HN.out HVV.out _ _ (HC1.out.blk (w.heap.size, F.vals, 31) (by simp))).mono ?_); rintro e w2 ⟨rfl, hb⟩; rw [HB.out]; have HC2 := Lib.hid (HC1.out.step hb); clear hb))
      go_ret
      exact ⟨ret_bool (by rw [HR.out, HB.out]), HC2.out.below⟩


noncomputable def edgeRes (F : Fld) (n : Nt) : Int × Int := if netOk F n = true then (2 * (n.wide + n.high), 0) else (0, 1)
theorem edge_f (n : Nt) (hn : n.Ok) : wrap64 (2 * (wrap64 ((wrap64 n.wide) + (wrap64 n.high)))) = 2 * (n.wide + n.high) := by
  have := hn.w0; have := hn.w1; have := hn.h0; have := hn.h1
  unfold wrap64
  omega
theorem sEdge_any (n : Nt) (hn : n.Ok) (w : World) : Calls Try.prog 38 #[.agg n.vals.toArray] w fun e w' => e = .returned (.int .i64 (2 * (n.wide + n.high))) ∧ Below w.heap.size w w' := by
  refine (spec_l04Edge.calls n.x n.y n.wide n.high (2 * (n.wide + n.high)) w ?_).mono ?_
  · unfold spec_l04Edge.f
    rw [edge_f n hn]
  · rintro e w1 h
    exact h
theorem iEdge_any (n : Nt) (hn : n.Ok) (w : World) : Calls Try.prog 39 #[.agg n.vals.toArray] w fun e w' => e = .returned (.int .i64 (2 * (n.wide + n.high))) ∧ Below w.heap.size w w' := by
  refine (impl_Net_edge.calls n.x n.y n.wide n.high (2 * (n.wide + n.high)) w ?_).mono ?_
  · unfold impl_Net_edge.f
    rw [edge_f n hn]
  · rintro e w1 h
    exact h


set_option maxHeartbeats 2000000 in
theorem sEdgeOf_any (F : Fld) (hF : F.Ok) (n : Nt) (hn : n.Ok) (w : World) :
    Calls Try.prog 18 #[.agg F.vals.toArray, .agg n.vals.toArray] w fun e w' => e = .returned (.tuple #[.int .i64 (edgeRes F n).1, .int .i64 (edgeRes F n).2]) ∧ Below w.heap.size w w' := by
  have HO := Lib.hid hF
  have HN := Lib.hid hn
  clear hF hn
  have hz := zeroCells
  go_enter Try.func18, Try.ntmps18
  go_upto_region 1 with (fail)
  obtain ⟨W, hW⟩ : ∃ W, W = (w.alloc (.cells F.vals.toArray 31)).alloc (.cells n.vals.toArray 40) := ⟨_, rfl⟩
  have HC := Lib.hid (boxed2 w F.vals n.vals 31 40)
  rw [← hW] at HC ⊢
  clear hW
  cases hv : netOk F n
  · have HV := Lib.hid hv
    have HR : Hid (edgeRes F n = (0, 1)) := Lib.hid (by unfold edgeRes; rw [hv]; rfl)
    clear hv
    go_wp2_with (first
      | (with_reducible refine wpList_load_blk rfl 31 (.tmp 2) rfl _ 0 rfl F.vals _ (HC.out.blk (w.heap.size, F.vals, 31) (by simp)) (by rw [List.drop_zero, List.take_length]) Try.underlying31 rfl (by rw [HO.out.len]; kernel_rfl) ?_)
      | (with_reducible refine wpList_load_blk rfl 40 (.tmp 3) rfl _ 0 rfl n.vals _ (HC.out.blk (w.heap.size + 1, n.vals, 40) (by simp)) rfl Try.underlying40 rfl (by kernel_rfl) ?_)
      | (go_at_call 15; (with_reducible refine (sValidNet_any F HO.out n HN.out _).mono ?_); rintro e w1 ⟨rfl, hb⟩; rw [HV.out]; have HC1 := Lib.hid (HC.out.step hb); clear hb))
    go_ret2
    exact ⟨by rw [HR.out]; rfl, HC1.out.below⟩
  · have HV := Lib.hid hv
    have HR : Hid (edgeRes F n = (2 * (n.wide + n.high), 0)) := Lib.hid (by unfold edgeRes; rw [hv]; rfl)
    clear hv
    go_wp2_with (first
      | ((with_reducible refine wpList_load_blk rfl 40 (.tmp 3) rfl _ 0 rfl n.vals _ (HC1.out.blk (w.heap.size + 1, n.vals, 40) (by simp)) rfl Try.underlying40 rfl (by kernel_rfl) ?_))
      | (with_reducible refine wpList_load_blk rfl 31 (.tmp 2) rfl _ 0 rfl F.vals _ (HC.out.blk (w.heap.size, F.vals, 31) (by simp)) (by rw [List.drop_zero, List.take_length]) Try.underlying31 rfl (by rw [HO.out.len]; kernel_rfl) ?_)
      | (with_reducible refine wpList_load_blk rfl 40 (.tmp 3) rfl _ 0 rfl n.vals _ (HC.out.blk (w.heap.size + 1, n.vals, 40) (by simp)) rfl Try.underlying40 rfl (by kernel_rfl) ?_)
      | (go_at_call 15; (with_reducible refine (sValidNet_any F HO.out n HN.out _).mono ?_); rintro e w1 ⟨rfl, hb⟩; rw [HV.out]; have HC1 := Lib.hid (HC.out.step hb); clear hb)
      | (go_at_call 38; (with_reducible refine (sEdge_any n HN.out _).mono ?_); rintro e w2 ⟨rfl, hb⟩; have HC2 := Lib.hid (HC1.out.step hb); clear hb))
    go_ret2
    exact ⟨by rw [HR.out]; rfl, HC2.out.below⟩


set_option maxHeartbeats 2000000 in
theorem iEdgeOf_any (F : Fld) (hF : F.Ok) (n : Nt) (hn : n.Ok) (w : World) :
    Calls Try.prog 19 #[.agg F.vals.toArray, .agg n.vals.toArray] w fun e w' => e = .returned (.tuple #[.int .i64 (edgeRes F n).1, .int .i64 (edgeRes F n).2]) ∧ Below w.heap.size w w' := by
  have HO := Lib.hid hF
  have HN := Lib.hid hn
  clear hF hn
  have hz := zeroCells
  go_enter Try.func19, Try.ntmps19
  go_upto_region 1 with (fail)
  obtain ⟨W, hW⟩ : ∃ W, W = (w.alloc (.cells F.vals.toArray 31)).alloc (.cells n.vals.toArray 40) := ⟨_, rfl⟩
  have HC := Lib.hid (boxed2 w F.vals n.vals 31 40)
  rw [← hW] at HC ⊢
  clear hW
  cases hv : netOk F n
  · have HV := Lib.hid hv
    have HR : Hid (edgeRes F n = (0, 1)) := Lib.hid (by unfold edgeRes; rw [hv]; rfl)
    clear hv
    go_wp2_with (first
      | (with_reducible refine wpList_load_blk rfl 31 (.tmp 2) rfl _ 0 rfl F.vals _ (HC.out.blk (w.heap.size, F.vals, 31) (by simp)) (by rw [List.drop_zero, List.take_length]) Try.underlying31 rfl (by rw [HO.out.len]; kernel_rfl) ?_)
      | (with_reducible refine wpList_load_blk rfl 40 (.tmp 3) rfl _ 0 rfl n.vals _ (HC.out.blk (w.heap.size + 1, n.vals, 40) (by simp)) rfl Try.underlying40 rfl (by kernel_rfl) ?_)
      | (go_at_call 17; (with_reducible refine (iValidNet_any F HO.out n HN.out _).mono ?_); rintro e w1 ⟨rfl, hb⟩; rw [HV.out]; have HC1 := Lib.hid (HC.out.step hb); clear hb))
    go_ret2
    exact ⟨by rw [HR.out]; rfl, HC1.out.below⟩
  · have HV := Lib.hid hv
    have HR : Hid (edgeRes F n = (2 * (n.wide + n.high), 0)) := Lib.hid (by unfold edgeRes; rw [hv]; rfl)
    clear hv
    go_wp2_with (first
      | ((with_reducible refine wpList_load_blk rfl 40 (.tmp 3) rfl _ 0 rfl n.vals _ (HC1.out.blk (w.heap.size + 1, n.vals, 40) (by simp)) rfl Try.underlying40 rfl (by kernel_rfl) ?_))
      | (with_reducible refine wpList_load_blk rfl 31 (.tmp 2) rfl _ 0 rfl F.vals _ (HC.out.blk (w.heap.size, F.vals, 31) (by simp)) (by rw [List.drop_zero, List.take_length]) Try.underlying31 rfl (by rw [HO.out.len]; kernel_rfl) ?_)
      | (with_reducible refine wpList_load_blk rfl 40 (.tmp 3) rfl _ 0 rfl n.vals _ (HC.out.blk (w.heap.size + 1, n.vals, 40) (by simp)) rfl Try.underlying40 rfl (by kernel_rfl) ?_)
      | (go_at_call 17; (with_reducible refine (iValidNet_any F HO.out n HN.out _).mono ?_); rintro e w1 ⟨rfl, hb⟩; rw [HV.out]; have HC1 := Lib.hid (HC.out.step hb); clear hb)
      | (go_at_call 39; (with_reducible refine (iEdge_any n HN.out _).mono ?_); rintro e w2 ⟨rfl, hb⟩; have HC2 := Lib.hid (HC1.out.step hb); clear hb))
    go_ret2
    exact ⟨by rw [HR.out]; rfl, HC2.out.below⟩


noncomputable def undRes (F : Fld) (n : Nt) : List Int × Int := if netOk F n = true then (setTo (fun j => n.inside (j : Int)) 100, 0) else (List.replicate 2 0, 1)
theorem undRes_len (F : Fld) (n : Nt) : (undRes F n).1.length = 2 := by
  unfold undRes
  split
  · exact setTo_len _ _
  · simp
theorem net_fits {F : Fld} {n : Nt} (h : netOk F n = true) : n.Fits := by
  unfold netOk netB at h
  simp only [Bool.and_eq_true, inB_iff] at h
  obtain ⟨hv, ⟨a, b⟩, ⟨c, d⟩, ⟨e, f⟩, ⟨g, k⟩, _⟩ := h
  have h1 := inB_iff.1 (Fld.valid_iff.1 hv).w
  have h2 := inB_iff.1 (Fld.valid_iff.1 hv).h
  exact ⟨a, c, e, g, by omega, by omega⟩


set_option maxHeartbeats 2000000 in
theorem sUnder_any (F : Fld) (hF : F.Ok) (n : Nt) (hn : n.Ok) (w : World) :
    Calls Try.prog 20 #[.agg F.vals.toArray, .agg n.vals.toArray] w fun e w' => e = .returned (.tuple #[.agg (vrow .u64 (undRes F n).1).toArray, .int .i64 (undRes F n).2]) ∧ Below w.heap.size w w' := by
  have HO := Lib.hid hF
  have HN := Lib.hid hn
  clear hF hn
  have hz := zeroCells
  go_enter Try.func20, Try.ntmps20
  go_upto_region 1 with (fail)
  obtain ⟨W, hW⟩ : ∃ W, W = ((w.alloc (.cells F.vals.toArray 31)).alloc (.cells n.vals.toArray 40)).alloc (.cells (zrow .u64 2).toArray 47) := ⟨_, rfl⟩
  have HC := Lib.hid (boxed3 w F.vals n.vals (zrow .u64 2) 31 40 47)
  rw [← hW] at HC ⊢
  clear hW
  cases hv : netOk F n
  · have HV := Lib.hid hv
    have HR : Hid (undRes F n = (List.replicate 2 0, 1)) := Lib.hid (by unfold undRes; rw [hv]; rfl)
    clear hv
    go_wp2_with (first
      | (with_reducible refine wpList_load_blk rfl 31 (.tmp 2) rfl _ 0 rfl F.vals _ (HC.out.blk (w.heap.size, F.vals, 31) (by simp)) (by rw [List.drop_zero, List.take_length]) Try.underlying31 rfl (by rw [HO.out.len]; kernel_rfl) ?_)
      | (with_reducible refine wpList_load_blk rfl 40 (.tmp 3) rfl _ 0 rfl n.vals _ (HC.out.blk (w.heap.size + 1, n.vals, 40) (by simp)) rfl Try.underlying40 rfl (by kernel_rfl) ?_)
      | (go_at_call 15; (with_reducible refine (sValidNet_any F HO.out n HN.out _).mono ?_); rintro e w1 ⟨rfl, hb⟩; rw [HV.out]; have HC1 := Lib.hid (HC.out.step hb); clear hb; have hst := run_storeCells_blk (P := Try.prog) (HC1.out.blk (w.heap.size + 1 + 1, zrow .u64 2, 47) (by simp)) (vs := zrow .u64 2) rfl (zrow_one _ _)))
    rw [HR.out]
    exact post_blk2 (p := 4) (q := 5) (T := 47) rfl rfl rfl rfl (by rw [vrow_zero]; exact (HC1.out.blk (w.heap.size + 1 + 1, zrow .u64 2, 47) (by simp)).row _) Try.underlying47 rfl (by rw [vrow_len, List.length_replicate]; kernel_rfl) ⟨rfl, below_setRow HC1.out.below (by omega) _⟩
  · have HV := Lib.hid hv
    have HR : Hid (undRes F n = ((setTo (fun j => n.inside (j : Int)) 100), 0)) := Lib.hid (by unfold undRes; rw [hv]; rfl)
    have HF := Lib.hid (net_fits hv)
    have HL := Lib.hid (setTo_len (fun j => n.inside (j : Int)) 100)
    clear hv
    go_wp2_with (first
      | ((with_reducible refine wpList_load_blk rfl 40 (.tmp 3) rfl _ 0 rfl n.vals _ (HC1.out.blk (w.heap.size + 1, n.vals, 40) (by simp)) rfl Try.underlying40 rfl (by kernel_rfl) ?_))
      | (with_reducible refine wpList_load_blk rfl 31 (.tmp 2) rfl _ 0 rfl F.vals _ (HC.out.blk (w.heap.size, F.vals, 31) (by simp)) (by rw [List.drop_zero, List.take_length]) Try.underlying31 rfl (by rw [HO.out.len]; kernel_rfl) ?_)
      | (with_reducible refine wpList_load_blk rfl 40 (.tmp 3) rfl _ 0 rfl n.vals _ (HC.out.blk (w.heap.size + 1, n.vals, 40) (by simp)) rfl Try.underlying40 rfl (by kernel_rfl) ?_)
      | (go_at_call 15; (with_reducible refine (sValidNet_any F HO.out n HN.out _).mono ?_); rintro e w1 ⟨rfl, hb⟩; rw [HV.out]; have HC1 := Lib.hid (HC.out.step hb); clear hb)
      | (go_at_call 40; (with_reducible refine (under_any n HN.out _).mono ?_); rintro e w2 ⟨rfl, hb⟩; have HC2 := Lib.hid (HC1.out.step hb); clear hb)
      | (with_reducible refine wpList_store_all rfl 47 (.tmp 4) (.tmp 12) rfl _ (vrow .u64 (setTo (fun j => n.inside (j : Int)) 100)) rfl rfl (HC2.out.blk (w.heap.size + 1 + 1, zrow .u64 2, 47) (by simp)) (by rw [vrow_len, zrow_len, HL.out]) (by rw [vrow_len, HL.out]; kernel_rfl) (vrow_one _ _) ?_))
    rw [HR.out]
    exact post_blk2 (p := 4) (q := 5) (T := 47) rfl rfl rfl rfl ((HC2.out.blk (w.heap.size + 1 + 1, zrow .u64 2, 47) (by simp)).row _) Try.underlying47 rfl (by rw [vrow_len, HL.out]; kernel_rfl) ⟨rfl, below_setRow HC2.out.below (by omega) _⟩


set_option maxHeartbeats 2000000 in
theorem iUnder_any (F : Fld) (hF : F.Ok) (n : Nt) (hn : n.Ok) (w : World) :
    Calls Try.prog 21 #[.agg F.vals.toArray, .agg n.vals.toArray] w fun e w' => e = .returned (.tuple #[.agg (vrow .u64 (undRes F n).1).toArray, .int .i64 (undRes F n).2]) ∧ Below w.heap.size w w' := by
  have HO := Lib.hid hF
  have HN := Lib.hid hn
  clear hF hn
  have hz := zeroCells
  go_enter Try.func21, Try.ntmps21
  go_upto_region 1 with (fail)
  obtain ⟨W, hW⟩ : ∃ W, W = ((w.alloc (.cells F.vals.toArray 31)).alloc (.cells n.vals.toArray 40)).alloc (.cells (zrow .u64 2).toArray 47) := ⟨_, rfl⟩
  have HC := Lib.hid (boxed3 w F.vals n.vals (zrow .u64 2) 31 40 47)
  rw [← hW] at HC ⊢
  clear hW
  cases hv : netOk F n
  · have HV := Lib.hid hv
    have HR : Hid (undRes F n = (List.replicate 2 0, 1)) := Lib.hid (by unfold undRes; rw [hv]; rfl)
    clear hv
    go_wp2_with (first
      | (with_reducible refine wpList_load_blk rfl 31 (.tmp 2) rfl _ 0 rfl F.vals _ (HC.out.blk (w.heap.size, F.vals, 31) (by simp)) (by rw [List.drop_zero, List.take_length]) Try.underlying31 rfl (by rw [HO.out.len]; kernel_rfl) ?_)
      | (with_reducible refine wpList_load_blk rfl 40 (.tmp 3) rfl _ 0 rfl n.vals _ (HC.out.blk (w.heap.size + 1, n.vals, 40) (by simp)) rfl Try.underlying40 rfl (by kernel_rfl) ?_)
      | (go_at_call 17; (with_reducible refine (iValidNet_any F HO.out n HN.out _).mono ?_); rintro e w1 ⟨rfl, hb⟩; rw [HV.out]; have HC1 := Lib.hid (HC.out.step hb); clear hb; have hst := run_storeCells_blk (P := Try.prog) (HC1.out.blk (w.heap.size + 1 + 1, zrow .u64 2, 47) (by simp)) (vs := zrow .u64 2) rfl (zrow_one _ _)))
    rw [HR.out]
    exact post_blk2 (p := 4) (q := 5) (T := 47) rfl rfl rfl rfl (by rw [vrow_zero]; exact (HC1.out.blk (w.heap.size + 1 + 1, zrow .u64 2, 47) (by simp)).row _) Try.underlying47 rfl (by rw [vrow_len, List.length_replicate]; kernel_rfl) ⟨rfl, below_setRow HC1.out.below (by omega) _⟩
  · have HV := Lib.hid hv
    have HR : Hid (undRes F n = ((setTo (fun j => n.inside (j : Int)) 100), 0)) := Lib.hid (by unfold undRes; rw [hv]; rfl)
    have HF := Lib.hid (net_fits hv)
    have HL := Lib.hid (setTo_len (fun j => n.inside (j : Int)) 100)
    clear hv
    go_wp2_with (first
      | ((with_reducible refine wpList_load_blk rfl 40 (.tmp 3) rfl _ 0 rfl n.vals _ (HC1.out.blk (w.heap.size + 1, n.vals, 40) (by simp)) rfl Try.underlying40 rfl (by kernel_rfl) ?_))
      | (with_reducible refine wpList_load_blk rfl 31 (.tmp 2) rfl _ 0 rfl F.vals _ (HC.out.blk (w.heap.size, F.vals, 31) (by simp)) (by rw [List.drop_zero, List.take_length]) Try.underlying31 rfl (by rw [HO.out.len]; kernel_rfl) ?_)
      | (with_reducible refine wpList_load_blk rfl 40 (.tmp 3) rfl _ 0 rfl n.vals _ (HC.out.blk (w.heap.size + 1, n.vals, 40) (by simp)) rfl Try.underlying40 rfl (by kernel_rfl) ?_)
      | (go_at_call 17; (with_reducible refine (iValidNet_any F HO.out n HN.out _).mono ?_); rintro e w1 ⟨rfl, hb⟩; rw [HV.out]; have HC1 := Lib.hid (HC.out.step hb); clear hb)
      | (go_at_call 41; (with_reducible refine (nCells_any n HF.out _).mono ?_); rintro e w2 ⟨rfl, hb⟩; have HC2 := Lib.hid (HC1.out.step hb); clear hb)
      | (with_reducible refine wpList_store_all rfl 47 (.tmp 4) (.tmp 12) rfl _ (vrow .u64 (setTo (fun j => n.inside (j : Int)) 100)) rfl rfl (HC2.out.blk (w.heap.size + 1 + 1, zrow .u64 2, 47) (by simp)) (by rw [vrow_len, zrow_len, HL.out]) (by rw [vrow_len, HL.out]; kernel_rfl) (vrow_one _ _) ?_))
    rw [HR.out]
    exact post_blk2 (p := 4) (q := 5) (T := 47) rfl rfl rfl rfl ((HC2.out.blk (w.heap.size + 1 + 1, zrow .u64 2, 47) (by simp)).row _) Try.underlying47 rfl (by rw [vrow_len, HL.out]; kernel_rfl) ⟨rfl, below_setRow HC2.out.below (by omega) _⟩


end Go.Proofs.Ytndhmcjcnmiobaa
