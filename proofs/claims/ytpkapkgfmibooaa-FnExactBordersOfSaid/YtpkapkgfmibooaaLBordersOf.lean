/- The law FnExactBordersOf, walked: the program and the reference answer the same. No condition. -/
import Derived.Test.YtpkapkgfmibooaaGB
import Derived.Test.YtpkapkgfmibooaaGC
import Derived.Test.YtpkapkgfmibooaaMkA2
namespace Go.Proofs.Ytpkapkgfmibooaa.LBordersOf
open Go.RowKit Go.Proofs.YtpkapkgfmibooaaW.PrintWords Go.Proofs.YtpkapkgfmibooaaW.PrintLast Go.Proofs.Ytpkapkgfmibooaa.PAll
set_option linter.unusedSimpArgs false
set_option linter.unusedVariables false

set_option maxRecDepth 100000 in
set_option maxHeartbeats 8000000 in
theorem walk (w : World) (cs0 : List Value) (i0 : R.Ints fldKinds cs0) (cs1 : List Value) (i1 : R.Ints (List.replicate 100 .i8) cs1) :
    Calls Try.prog 3 #[.agg cs0.toArray, .agg cs1.toArray] w fun e w' => e = .returned (.bool true) ∧ Below w.heap.size w w' := by
  obtain ⟨F, hF', rfl⟩ := fld_of_ints i0
  have hF := Lib.hid hF'
  clear i0 hF'
  obtain ⟨os, hos', rfl⟩ := os_of_ints i1
  have hos := Lib.hid hos'
  clear i1 hos'
  obtain ⟨V, hV⟩ : ∃ V, V = boRes F os := ⟨_, rfl⟩
  have HSp' := fun w1 => sBorders_any F hF.out os hos.out w1
  have HIm' := fun w1 => iBorders_any F hF.out os hos.out w1
  have hVl' := boRes_len F os
  rw [← hV] at HSp' HIm' hVl'
  clear hV
  have HSp := Lib.hid HSp'
  clear HSp'
  have HIm := Lib.hid HIm'
  clear HIm'
  have hVl := Lib.hid hVl'
  clear hVl'
  obtain ⟨k0, m0, y0, g1, g2, g3, gm0⟩ := marks_A2 V.1 hVl.out
  have M0 := Lib.hid g1
  have M0l := Lib.hid g2
  have M0h := Lib.hid g3
  clear g1 g2 g3
  have hmm0 : (m0 != m0) = false := by simp
  have hV0 : (V.2 != V.2) = false := by simp
  go_enter Try.func3, Try.ntmps3
  go_upto_region 1 with (fail)
  obtain ⟨W, hW⟩ : ∃ W, W = (w.alloc (.cells F.vals.toArray 27)).alloc (.cells (vrow .i8 os).toArray 28) := ⟨_, rfl⟩
  have HC := Lib.hid (boxed2 w F.vals (vrow .i8 os) 27 28)
  rw [← hW] at HC ⊢
  clear hW
  have HB0 := Lib.hid (Below.refl W.heap.size W)
  refine la_start (S := fun w' => Below W.heap.size W w') (n := 10) #[false, false, false, false, false, false, false, false, false, false] (by kernel_rfl) (by kernel_rfl) (below_drewN HB0.out 1) (fun _ _ _ _ hd h => ⟨hd.symm.trans h.1, h.2⟩) (fun hPB => ?_)
  have HPB := Lib.hid hPB
  clear hPB
  have HB1 := Lib.hid (below_drewN HB0.out 1)
  clear HB0
  refine la_load (i := 0) #[true, false, false, false, false, false, false, false, false, false] (some 14) rfl rfl (by kernel_rfl) HPB.out rfl 27 (.tmp 2) rfl (w.heap.size) 0 (by kernel_rfl) F.vals _ (fun w1 h1 => (HC.out.step h1).blk (w.heap.size, F.vals, 27) (List.Mem.head _)) (by rw [List.drop_zero, List.take_length]) Try.underlying27 rfl (by rw [hF.out.len]; kernel_rfl) HB1.out ?_
  simp only [Act.put, List.setIfInBounds_toArray, List.set_cons_zero, List.set_cons_succ]
  refine la_load (i := 2) #[true, false, true, false, false, false, false, false, false, false] (some 16) rfl rfl (by kernel_rfl) HPB.out rfl 28 (.tmp 3) rfl (w.heap.size + 1) 0 (by kernel_rfl) (vrow .i8 os) _ (fun w1 h1 => (HC.out.step h1).blk (w.heap.size + 1, (vrow .i8 os), 28) (List.Mem.tail _ (List.Mem.head _))) (by rw [List.drop_zero, List.take_length]) Try.underlying28 rfl (by rw [vrow_len, hos.out.len]; kernel_rfl) HB1.out ?_
  simp only [Act.put, List.setIfInBounds_toArray, List.set_cons_zero, List.set_cons_succ]
  refine la_call (i := 1) #[true, true, true, false, false, false, false, false, false, false] (some 15) rfl rfl (by kernel_rfl) rfl Try.func10 (by kernel_rfl) rfl #[.agg F.vals.toArray] rfl (by simp only [List.map_toArray, List.map_cons, List.map_nil]; kernel_rfl) ?_
  refine (toField_any F hF.out _).mono ?_
  rintro e w2 ⟨rfl, hb⟩
  have HB3 := Lib.hid (HB1.out.trans (hb.mono HB1.out.size))
  clear HB1
  clear hb
  refine ⟨_, rfl, HB3.out, ?_⟩
  simp only [Act.put, List.setIfInBounds_toArray, List.set_cons_zero, List.set_cons_succ]
  refine la_call (i := 3) #[true, true, true, true, false, false, false, false, false, false] (some 17) rfl rfl (by kernel_rfl) rfl Try.func11 (by kernel_rfl) rfl #[.agg (vrow .i8 os).toArray] rfl (by simp only [List.map_toArray, List.map_cons, List.map_nil]; kernel_rfl) ?_
  refine (toOwners_any os hos.out.len _).mono ?_
  rintro e w4 ⟨rfl, hb⟩
  have HB5 := Lib.hid (HB3.out.trans (hb.mono HB3.out.size))
  clear HB3
  clear hb
  refine ⟨_, rfl, HB5.out, ?_⟩
  simp only [Act.put, List.setIfInBounds_toArray, List.set_cons_zero, List.set_cons_succ]
  refine la_call (i := 4) #[true, true, true, true, true, false, false, false, false, false] (some 18) rfl rfl (by kernel_rfl) rfl Try.func9 (by kernel_rfl) rfl #[.agg F.vals.toArray, .agg (vrow .i8 os).toArray] rfl (by simp only [List.map_toArray, List.map_cons, List.map_nil]; kernel_rfl) ?_
  refine (HSp.out _).mono ?_
  rintro e w6 ⟨vS10, rfl, hm0, hb⟩
  obtain ⟨AS10, cS10, hv⟩ := Kd.R_slice hm0
  subst hv
  have H7 := Lib.hid (ow_new (d := kA2) rfl hm0 HB5.out)
  have HB8 := Lib.hid (HB5.out.trans (hb.mono HB5.out.size))
  clear HB5
  clear hm0 hb
  refine ⟨_, rfl, HB8.out, ?_⟩
  simp only [Act.put, List.setIfInBounds_toArray, List.set_cons_zero, List.set_cons_succ]
  refine la_fmove (i := 5) #[true, true, true, true, true, true, false, false, false, false] (some 13) rfl rfl (by kernel_rfl) HPB.out rfl (.tmp 18) rfl (.tuple #[.slice AS10 V.1.length cS10, .int .i64 V.2]) (by kernel_rfl) ?_
  simp only [Act.put, List.setIfInBounds_toArray, List.set_cons_zero, List.set_cons_succ]
  refine la_extract (i := 6) #[true, true, true, true, true, true, true, false, false, false] (some 19) rfl rfl (by kernel_rfl) HPB.out rfl (.tmp 13) 0 rfl #[.slice AS10 V.1.length cS10, .int .i64 V.2] (by kernel_rfl) (.slice AS10 V.1.length cS10) (by simp) ?_
  simp only [Act.put, List.setIfInBounds_toArray, List.set_cons_zero, List.set_cons_succ]
  refine la_extract (i := 7) #[true, true, true, true, true, true, true, true, false, false] (some 20) rfl rfl (by kernel_rfl) HPB.out rfl (.tmp 13) 1 rfl #[.slice AS10 V.1.length cS10, .int .i64 V.2] (by kernel_rfl) (.int .i64 V.2) (by simp) ?_
  simp only [Act.put, List.setIfInBounds_toArray, List.set_cons_zero, List.set_cons_succ]
  refine la_assign (i := 8) #[true, true, true, true, true, true, true, true, true, false] (some 5) rfl rfl (by kernel_rfl) rfl (.tmp 19) rfl (.slice AS10 V.1.length cS10) (by kernel_rfl) HB8.out ?_
  simp only [Act.put, List.setIfInBounds_toArray, List.set_cons_zero, List.set_cons_succ]
  refine la_assign (i := 9) #[true, true, true, true, true, true, true, true, true, true] (some 6) rfl rfl (by kernel_rfl) rfl (.tmp 20) rfl (.int .i64 V.2) (by kernel_rfl) HB8.out ?_
  simp only [Act.put, List.setIfInBounds_toArray, List.set_cons_zero, List.set_cons_succ]
  refine la_done (by kernel_rfl) ?_
  clear HPB
  go_upto_region 2 with (fail)
  refine la_start (S := fun w' => Below W.heap.size W w') (n := 10) #[false, false, false, false, false, false, false, false, false, false] (by kernel_rfl) (by kernel_rfl) (below_drewN HB8.out 1) (fun _ _ _ _ hd h => ⟨hd.symm.trans h.1, h.2⟩) (fun hPB => ?_)
  have HPB := Lib.hid hPB
  clear hPB
  have HB9 := Lib.hid (below_drewN HB8.out 1)
  clear HB8
  have H10 := Lib.hid (Kd.R_drewN H7.out 1)
  clear H7
  refine la_load (i := 0) #[true, false, false, false, false, false, false, false, false, false] (some 22) rfl rfl (by kernel_rfl) HPB.out rfl 27 (.tmp 2) rfl (w.heap.size) 0 (by kernel_rfl) F.vals _ (fun w1 h1 => (HC.out.step h1).blk (w.heap.size, F.vals, 27) (List.Mem.head _)) (by rw [List.drop_zero, List.take_length]) Try.underlying27 rfl (by rw [hF.out.len]; kernel_rfl) HB9.out ?_
  simp only [Act.put, List.setIfInBounds_toArray, List.set_cons_zero, List.set_cons_succ]
  refine la_load (i := 2) #[true, false, true, false, false, false, false, false, false, false] (some 24) rfl rfl (by kernel_rfl) HPB.out rfl 28 (.tmp 3) rfl (w.heap.size + 1) 0 (by kernel_rfl) (vrow .i8 os) _ (fun w1 h1 => (HC.out.step h1).blk (w.heap.size + 1, (vrow .i8 os), 28) (List.Mem.tail _ (List.Mem.head _))) (by rw [List.drop_zero, List.take_length]) Try.underlying28 rfl (by rw [vrow_len, hos.out.len]; kernel_rfl) HB9.out ?_
  simp only [Act.put, List.setIfInBounds_toArray, List.set_cons_zero, List.set_cons_succ]
  refine la_call (i := 1) #[true, true, true, false, false, false, false, false, false, false] (some 23) rfl rfl (by kernel_rfl) rfl Try.func10 (by kernel_rfl) rfl #[.agg F.vals.toArray] rfl (by simp only [List.map_toArray, List.map_cons, List.map_nil]; kernel_rfl) ?_
  refine (toField_any F hF.out _).mono ?_
  rintro e w11 ⟨rfl, hb⟩
  have HB12 := Lib.hid (HB9.out.trans (hb.mono HB9.out.size))
  clear HB9
  have H13 := Lib.hid (ow_below H10.out hb)
  clear H10
  clear hb
  refine ⟨_, rfl, HB12.out, ?_⟩
  simp only [Act.put, List.setIfInBounds_toArray, List.set_cons_zero, List.set_cons_succ]
  refine la_call (i := 3) #[true, true, true, true, false, false, false, false, false, false] (some 25) rfl rfl (by kernel_rfl) rfl Try.func11 (by kernel_rfl) rfl #[.agg (vrow .i8 os).toArray] rfl (by simp only [List.map_toArray, List.map_cons, List.map_nil]; kernel_rfl) ?_
  refine (toOwners_any os hos.out.len _).mono ?_
  rintro e w14 ⟨rfl, hb⟩
  have HB15 := Lib.hid (HB12.out.trans (hb.mono HB12.out.size))
  clear HB12
  have H16 := Lib.hid (ow_below H13.out hb)
  clear H13
  clear hb
  refine ⟨_, rfl, HB15.out, ?_⟩
  simp only [Act.put, List.setIfInBounds_toArray, List.set_cons_zero, List.set_cons_succ]
  refine la_call (i := 4) #[true, true, true, true, true, false, false, false, false, false] (some 26) rfl rfl (by kernel_rfl) rfl Try.func12 (by kernel_rfl) rfl #[.agg F.vals.toArray, .agg (vrow .i8 os).toArray] rfl (by simp only [List.map_toArray, List.map_cons, List.map_nil]; kernel_rfl) ?_
  refine (HIm.out _).mono ?_
  rintro e w17 ⟨vG20, rfl, hm0, hb⟩
  obtain ⟨AG20, cG20, hv⟩ := Kd.R_slice hm0
  subst hv
  have H18 := Lib.hid (ow_new (d := kA2) rfl hm0 HB15.out)
  have HA19 := Lib.hid (apart_new hm0 H16.out).1
  have HA20 := Lib.hid (apart_new hm0 H16.out).2
  have HB21 := Lib.hid (HB15.out.trans (hb.mono HB15.out.size))
  clear HB15
  have H22 := Lib.hid (ow_below H16.out hb)
  clear H16
  clear hm0 hb
  refine ⟨_, rfl, HB21.out, ?_⟩
  simp only [Act.put, List.setIfInBounds_toArray, List.set_cons_zero, List.set_cons_succ]
  refine la_fmove (i := 5) #[true, true, true, true, true, true, false, false, false, false] (some 21) rfl rfl (by kernel_rfl) HPB.out rfl (.tmp 26) rfl (.tuple #[.slice AG20 V.1.length cG20, .int .i64 V.2]) (by kernel_rfl) ?_
  simp only [Act.put, List.setIfInBounds_toArray, List.set_cons_zero, List.set_cons_succ]
  refine la_extract (i := 6) #[true, true, true, true, true, true, true, false, false, false] (some 27) rfl rfl (by kernel_rfl) HPB.out rfl (.tmp 21) 0 rfl #[.slice AG20 V.1.length cG20, .int .i64 V.2] (by kernel_rfl) (.slice AG20 V.1.length cG20) (by simp) ?_
  simp only [Act.put, List.setIfInBounds_toArray, List.set_cons_zero, List.set_cons_succ]
  refine la_extract (i := 7) #[true, true, true, true, true, true, true, true, false, false] (some 28) rfl rfl (by kernel_rfl) HPB.out rfl (.tmp 21) 1 rfl #[.slice AG20 V.1.length cG20, .int .i64 V.2] (by kernel_rfl) (.int .i64 V.2) (by simp) ?_
  simp only [Act.put, List.setIfInBounds_toArray, List.set_cons_zero, List.set_cons_succ]
  refine la_assign (i := 8) #[true, true, true, true, true, true, true, true, true, false] (some 7) rfl rfl (by kernel_rfl) rfl (.tmp 27) rfl (.slice AG20 V.1.length cG20) (by kernel_rfl) HB21.out ?_
  simp only [Act.put, List.setIfInBounds_toArray, List.set_cons_zero, List.set_cons_succ]
  refine la_assign (i := 9) #[true, true, true, true, true, true, true, true, true, true] (some 8) rfl rfl (by kernel_rfl) rfl (.tmp 28) rfl (.int .i64 V.2) (by kernel_rfl) HB21.out ?_
  simp only [Act.put, List.setIfInBounds_toArray, List.set_cons_zero, List.set_cons_succ]
  refine la_done (by kernel_rfl) ?_
  clear HPB
  go_upto_region 3 with (fail)
  go_upto_region 13 with (first
    | ((with_reducible refine gate_dst (N := 31) rfl ?_); refine goesL_ (some 31) rfl rfl Try.func13 (by kernel_rfl) rfl #[.slice AG20 V.1.length cG20, .slice AS10 V.1.length cS10] rfl (by simp only [List.map_toArray, List.map_cons, List.map_nil]; kernel_rfl) ?_; refine (eqO_A2 H18.out H22.out hVl.out).mono ?_; rintro e w23 ⟨rfl, hb⟩; refine ⟨_, rfl, ?_⟩; have HB24 := Lib.hid (HB21.out.trans (hb.mono HB21.out.size)); clear HB21; have H25 := Lib.hid (ow_below H22.out hb); clear H22; have H26 := Lib.hid (ow_below H18.out hb); clear H18; clear hb)
    | ((with_reducible refine gate_dst (N := 40) rfl ?_); refine goesL_ (some 40) rfl rfl Try.func14 (by kernel_rfl) rfl #[.slice AG20 V.1.length cG20, .int .i64 1] rfl (by simp only [List.map_toArray, List.map_cons, List.map_nil]; kernel_rfl) ?_; refine (markO_A2 HB24.out H26.out M0.out).mono ?_; rintro e w27 ⟨rfl, ho, hbb, hkk⟩; refine ⟨_, rfl, ?_⟩; have HB28 := Lib.hid hbb; have H29 := Lib.hid ho; clear HB24; have H30 := Lib.hid (ow_kept H25.out HA19.out hkk); clear H25; clear H26; clear ho hbb hkk)
    | ((with_reducible refine gate_dst (N := 43) rfl ?_); refine goesL_ (some 43) rfl rfl Try.func15 (by kernel_rfl) rfl #[.slice AG20 V.1.length cG20, .int .i64 1] rfl (by simp only [List.map_toArray, List.map_cons, List.map_nil]; kernel_rfl) ?_; refine (heldO_A2 M0l.out.symm H29.out M0h.out).mono ?_; rintro e w31 ⟨rfl, hb⟩; refine ⟨_, rfl, ?_⟩; have HB32 := Lib.hid (HB28.out.trans (hb.mono HB28.out.size)); clear HB28; have H33 := Lib.hid (ow_below H30.out hb); clear H30; have H34 := Lib.hid (ow_below H29.out hb); clear H29; clear hb))
  refine la_start (S := fun w' => Below W.heap.size W w') (n := 10) #[false, false, false, false, false, false, false, false, false, false] (by kernel_rfl) (by kernel_rfl) (below_drewN HB32.out 1) (fun _ _ _ _ hd h => ⟨hd.symm.trans h.1, h.2⟩) (fun hPB => ?_)
  have HPB := Lib.hid hPB
  clear hPB
  have HB35 := Lib.hid (below_drewN HB32.out 1)
  clear HB32
  have H36 := Lib.hid (Kd.R_drewN H33.out 1)
  clear H33
  have H37 := Lib.hid (Kd.R_drewN H34.out 1)
  clear H34
  refine la_load (i := 0) #[true, false, false, false, false, false, false, false, false, false] (some 50) rfl rfl (by kernel_rfl) HPB.out rfl 27 (.tmp 2) rfl (w.heap.size) 0 (by kernel_rfl) F.vals _ (fun w1 h1 => (HC.out.step h1).blk (w.heap.size, F.vals, 27) (List.Mem.head _)) (by rw [List.drop_zero, List.take_length]) Try.underlying27 rfl (by rw [hF.out.len]; kernel_rfl) HB35.out ?_
  simp only [Act.put, List.setIfInBounds_toArray, List.set_cons_zero, List.set_cons_succ]
  refine la_load (i := 2) #[true, false, true, false, false, false, false, false, false, false] (some 52) rfl rfl (by kernel_rfl) HPB.out rfl 28 (.tmp 3) rfl (w.heap.size + 1) 0 (by kernel_rfl) (vrow .i8 os) _ (fun w1 h1 => (HC.out.step h1).blk (w.heap.size + 1, (vrow .i8 os), 28) (List.Mem.tail _ (List.Mem.head _))) (by rw [List.drop_zero, List.take_length]) Try.underlying28 rfl (by rw [vrow_len, hos.out.len]; kernel_rfl) HB35.out ?_
  simp only [Act.put, List.setIfInBounds_toArray, List.set_cons_zero, List.set_cons_succ]
  refine la_call (i := 1) #[true, true, true, false, false, false, false, false, false, false] (some 51) rfl rfl (by kernel_rfl) rfl Try.func10 (by kernel_rfl) rfl #[.agg F.vals.toArray] rfl (by simp only [List.map_toArray, List.map_cons, List.map_nil]; kernel_rfl) ?_
  refine (toField_any F hF.out _).mono ?_
  rintro e w38 ⟨rfl, hb⟩
  have HB39 := Lib.hid (HB35.out.trans (hb.mono HB35.out.size))
  clear HB35
  have H40 := Lib.hid (ow_below H36.out hb)
  clear H36
  have H41 := Lib.hid (ow_below H37.out hb)
  clear H37
  clear hb
  refine ⟨_, rfl, HB39.out, ?_⟩
  simp only [Act.put, List.setIfInBounds_toArray, List.set_cons_zero, List.set_cons_succ]
  refine la_call (i := 3) #[true, true, true, true, false, false, false, false, false, false] (some 53) rfl rfl (by kernel_rfl) rfl Try.func11 (by kernel_rfl) rfl #[.agg (vrow .i8 os).toArray] rfl (by simp only [List.map_toArray, List.map_cons, List.map_nil]; kernel_rfl) ?_
  refine (toOwners_any os hos.out.len _).mono ?_
  rintro e w42 ⟨rfl, hb⟩
  have HB43 := Lib.hid (HB39.out.trans (hb.mono HB39.out.size))
  clear HB39
  have H44 := Lib.hid (ow_below H40.out hb)
  clear H40
  have H45 := Lib.hid (ow_below H41.out hb)
  clear H41
  clear hb
  refine ⟨_, rfl, HB43.out, ?_⟩
  simp only [Act.put, List.setIfInBounds_toArray, List.set_cons_zero, List.set_cons_succ]
  refine la_call (i := 4) #[true, true, true, true, true, false, false, false, false, false] (some 54) rfl rfl (by kernel_rfl) rfl Try.func12 (by kernel_rfl) rfl #[.agg F.vals.toArray, .agg (vrow .i8 os).toArray] rfl (by simp only [List.map_toArray, List.map_cons, List.map_nil]; kernel_rfl) ?_
  refine (HIm.out _).mono ?_
  rintro e w46 ⟨vG30, rfl, hm0, hb⟩
  obtain ⟨AG30, cG30, hv⟩ := Kd.R_slice hm0
  subst hv
  have H47 := Lib.hid (ow_new (d := kA2) rfl hm0 HB43.out)
  have HA48 := Lib.hid (apart_new hm0 H44.out).1
  have HA49 := Lib.hid (apart_new hm0 H44.out).2
  have HA50 := Lib.hid (apart_new hm0 H45.out).1
  have HA51 := Lib.hid (apart_new hm0 H45.out).2
  have HB52 := Lib.hid (HB43.out.trans (hb.mono HB43.out.size))
  clear HB43
  have H53 := Lib.hid (ow_below H44.out hb)
  clear H44
  have H54 := Lib.hid (ow_below H45.out hb)
  clear H45
  clear hm0 hb
  refine ⟨_, rfl, HB52.out, ?_⟩
  simp only [Act.put, List.setIfInBounds_toArray, List.set_cons_zero, List.set_cons_succ]
  refine la_fmove (i := 5) #[true, true, true, true, true, true, false, false, false, false] (some 49) rfl rfl (by kernel_rfl) HPB.out rfl (.tmp 54) rfl (.tuple #[.slice AG30 V.1.length cG30, .int .i64 V.2]) (by kernel_rfl) ?_
  simp only [Act.put, List.setIfInBounds_toArray, List.set_cons_zero, List.set_cons_succ]
  refine la_extract (i := 6) #[true, true, true, true, true, true, true, false, false, false] (some 55) rfl rfl (by kernel_rfl) HPB.out rfl (.tmp 49) 0 rfl #[.slice AG30 V.1.length cG30, .int .i64 V.2] (by kernel_rfl) (.slice AG30 V.1.length cG30) (by simp) ?_
  simp only [Act.put, List.setIfInBounds_toArray, List.set_cons_zero, List.set_cons_succ]
  refine la_extract (i := 7) #[true, true, true, true, true, true, true, true, false, false] (some 56) rfl rfl (by kernel_rfl) HPB.out rfl (.tmp 49) 1 rfl #[.slice AG30 V.1.length cG30, .int .i64 V.2] (by kernel_rfl) (.int .i64 V.2) (by simp) ?_
  simp only [Act.put, List.setIfInBounds_toArray, List.set_cons_zero, List.set_cons_succ]
  refine la_assign (i := 8) #[true, true, true, true, true, true, true, true, true, false] (some 11) rfl rfl (by kernel_rfl) rfl (.tmp 55) rfl (.slice AG30 V.1.length cG30) (by kernel_rfl) HB52.out ?_
  simp only [Act.put, List.setIfInBounds_toArray, List.set_cons_zero, List.set_cons_succ]
  refine la_assign (i := 9) #[true, true, true, true, true, true, true, true, true, true] (some 12) rfl rfl (by kernel_rfl) rfl (.tmp 56) rfl (.int .i64 V.2) (by kernel_rfl) HB52.out ?_
  simp only [Act.put, List.setIfInBounds_toArray, List.set_cons_zero, List.set_cons_succ]
  refine la_done (by kernel_rfl) ?_
  clear HPB
  go_upto_region 14 with (fail)
  go_wp2_with (first
    | ((with_reducible refine gate_dst (N := 59) rfl ?_); refine goesL_ (some 59) rfl rfl Try.func13 (by kernel_rfl) rfl #[.slice AG30 V.1.length cG30, .slice AS10 V.1.length cS10] rfl (by simp only [List.map_toArray, List.map_cons, List.map_nil]; kernel_rfl) ?_; refine (eqO_A2 H47.out H53.out hVl.out).mono ?_; rintro e w55 ⟨rfl, hb⟩; refine ⟨_, rfl, ?_⟩; have HB56 := Lib.hid (HB52.out.trans (hb.mono HB52.out.size)); clear HB52; have H57 := Lib.hid (ow_below H53.out hb); clear H53; have H58 := Lib.hid (ow_below H54.out hb); clear H54; have H59 := Lib.hid (ow_below H47.out hb); clear H47; clear hb)
    | ((with_reducible refine gate_dst (N := 68) rfl ?_); refine goesL_ (some 68) rfl rfl Try.func15 (by kernel_rfl) rfl #[.slice AG20 V.1.length cG20, .int .i64 1] rfl (by simp only [List.map_toArray, List.map_cons, List.map_nil]; kernel_rfl) ?_; refine (heldO_A2 M0l.out.symm H58.out M0h.out).mono ?_; rintro e w60 ⟨rfl, hb⟩; refine ⟨_, rfl, ?_⟩; have HB61 := Lib.hid (HB56.out.trans (hb.mono HB56.out.size)); clear HB56; have H62 := Lib.hid (ow_below H57.out hb); clear H57; have H63 := Lib.hid (ow_below H58.out hb); clear H58; have H64 := Lib.hid (ow_below H59.out hb); clear H59; clear hb))
  go_ret
  exact ⟨rfl, (HC.out.step HB61.out).below⟩

end Go.Proofs.Ytpkapkgfmibooaa.LBordersOf
