/- The law FnExactLossByOwner, walked: the program and the reference answer the same. No condition. -/
import Derived.Test.YtpkapkgfmibooaaGB
import Derived.Test.YtpkapkgfmibooaaGC
import Derived.Test.YtpkapkgfmibooaaLO
import Derived.Test.YtpkapkgfmibooaaMkInt
namespace Go.Proofs.Ytpkapkgfmibooaa.LLossByOwner
open Go.RowKit Go.Proofs.YtpkapkgfmibooaaW.PrintWords Go.Proofs.YtpkapkgfmibooaaW.PrintLast Go.Proofs.Ytpkapkgfmibooaa.PAll
set_option linter.unusedSimpArgs false
set_option linter.unusedVariables false

set_option maxRecDepth 100000 in
set_option maxHeartbeats 8000000 in
theorem walk (w : World) (cs0 : List Value) (i0 : R.Ints fldKinds cs0) (cs1 : List Value) (i1 : R.Ints fldKinds cs1) (cs2 : List Value) (i2 : R.Ints (List.replicate 100 .i8) cs2) :
    Calls Try.prog 4 #[.agg cs0.toArray, .agg cs1.toArray, .agg cs2.toArray] w fun e w' => e = .returned (.bool true) ∧ Below w.heap.size w w' := by
  obtain ⟨F, hF', rfl⟩ := fld_of_ints i0
  have hF := Lib.hid hF'
  clear i0 hF'
  obtain ⟨G, hG', rfl⟩ := fld_of_ints i1
  have hG := Lib.hid hG'
  clear i1 hG'
  obtain ⟨os, hos', rfl⟩ := os_of_ints i2
  have hos := Lib.hid hos'
  clear i2 hos'
  obtain ⟨V, hV⟩ : ∃ V, V = lbRes F G os := ⟨_, rfl⟩
  have HSp' := fun w1 => sLossByOwner_any F G hF.out hG.out os hos.out w1
  have HIm' := fun w1 => iLossByOwner_any F G hF.out hG.out os hos.out w1
  have hVl' := lbRes_len F G os
  rw [← hV] at HSp' HIm' hVl'
  clear hV
  have HSp := Lib.hid HSp'
  clear HSp'
  have HIm := Lib.hid HIm'
  clear HIm'
  have hVl := Lib.hid hVl'
  clear hVl'
  obtain ⟨k0, m0, y0, g1, g2, g3, gm0⟩ := marks_Int V.1 hVl.out
  have gn0 : 1 ≤ m0 := by omega
  clear gm0
  have M0 := Lib.hid g1
  have M0l := Lib.hid g2
  have M0h := Lib.hid g3
  clear g1 g2 g3
  have hmm0 : (m0 != m0) = false := by simp
  have hV0 : (V.2 != V.2) = false := by simp
  go_enter Try.func4, Try.ntmps4
  go_upto_region 1 with (fail)
  obtain ⟨W, hW⟩ : ∃ W, W = ((w.alloc (.cells F.vals.toArray 27)).alloc (.cells G.vals.toArray 27)).alloc (.cells (vrow .i8 os).toArray 28) := ⟨_, rfl⟩
  have HC := Lib.hid (boxed3 w F.vals G.vals (vrow .i8 os) 27 27 28)
  rw [← hW] at HC ⊢
  clear hW
  have HB0 := Lib.hid (Below.refl W.heap.size W)
  refine la_start (S := fun w' => Below W.heap.size W w') (n := 12) #[false, false, false, false, false, false, false, false, false, false, false, false] (by kernel_rfl) (by kernel_rfl) (below_drewN HB0.out 1) (fun _ _ _ _ hd h => ⟨hd.symm.trans h.1, h.2⟩) (fun hPB => ?_)
  have HPB := Lib.hid hPB
  clear hPB
  have HB1 := Lib.hid (below_drewN HB0.out 1)
  clear HB0
  refine la_load (i := 0) #[true, false, false, false, false, false, false, false, false, false, false, false] (some 16) rfl rfl (by kernel_rfl) HPB.out rfl 27 (.tmp 3) rfl (w.heap.size) 0 (by kernel_rfl) F.vals _ (fun w1 h1 => (HC.out.step h1).blk (w.heap.size, F.vals, 27) (List.Mem.head _)) (by rw [List.drop_zero, List.take_length]) Try.underlying27 rfl (by rw [hF.out.len]; kernel_rfl) HB1.out ?_
  simp only [Act.put, List.setIfInBounds_toArray, List.set_cons_zero, List.set_cons_succ]
  refine la_load (i := 2) #[true, false, true, false, false, false, false, false, false, false, false, false] (some 18) rfl rfl (by kernel_rfl) HPB.out rfl 27 (.tmp 4) rfl (w.heap.size + 1) 0 (by kernel_rfl) G.vals _ (fun w1 h1 => (HC.out.step h1).blk (w.heap.size + 1, G.vals, 27) (List.Mem.tail _ (List.Mem.head _))) (by rw [List.drop_zero, List.take_length]) Try.underlying27 rfl (by rw [hG.out.len]; kernel_rfl) HB1.out ?_
  simp only [Act.put, List.setIfInBounds_toArray, List.set_cons_zero, List.set_cons_succ]
  refine la_load (i := 4) #[true, false, true, false, true, false, false, false, false, false, false, false] (some 20) rfl rfl (by kernel_rfl) HPB.out rfl 28 (.tmp 5) rfl (w.heap.size + 1 + 1) 0 (by kernel_rfl) (vrow .i8 os) _ (fun w1 h1 => (HC.out.step h1).blk (w.heap.size + 1 + 1, (vrow .i8 os), 28) (List.Mem.tail _ (List.Mem.tail _ (List.Mem.head _)))) (by rw [List.drop_zero, List.take_length]) Try.underlying28 rfl (by rw [vrow_len, hos.out.len]; kernel_rfl) HB1.out ?_
  simp only [Act.put, List.setIfInBounds_toArray, List.set_cons_zero, List.set_cons_succ]
  refine la_call (i := 1) #[true, true, true, false, true, false, false, false, false, false, false, false] (some 17) rfl rfl (by kernel_rfl) rfl Try.func10 (by kernel_rfl) rfl #[.agg F.vals.toArray] rfl (by simp only [List.map_toArray, List.map_cons, List.map_nil]; kernel_rfl) ?_
  refine (toField_any F hF.out _).mono ?_
  rintro e w2 ⟨rfl, hb⟩
  have HB3 := Lib.hid (HB1.out.trans (hb.mono HB1.out.size))
  clear HB1
  clear hb
  refine ⟨_, rfl, HB3.out, ?_⟩
  simp only [Act.put, List.setIfInBounds_toArray, List.set_cons_zero, List.set_cons_succ]
  refine la_call (i := 3) #[true, true, true, true, true, false, false, false, false, false, false, false] (some 19) rfl rfl (by kernel_rfl) rfl Try.func10 (by kernel_rfl) rfl #[.agg G.vals.toArray] rfl (by simp only [List.map_toArray, List.map_cons, List.map_nil]; kernel_rfl) ?_
  refine (toField_any G hG.out _).mono ?_
  rintro e w4 ⟨rfl, hb⟩
  have HB5 := Lib.hid (HB3.out.trans (hb.mono HB3.out.size))
  clear HB3
  clear hb
  refine ⟨_, rfl, HB5.out, ?_⟩
  simp only [Act.put, List.setIfInBounds_toArray, List.set_cons_zero, List.set_cons_succ]
  refine la_call (i := 5) #[true, true, true, true, true, true, false, false, false, false, false, false] (some 21) rfl rfl (by kernel_rfl) rfl Try.func11 (by kernel_rfl) rfl #[.agg (vrow .i8 os).toArray] rfl (by simp only [List.map_toArray, List.map_cons, List.map_nil]; kernel_rfl) ?_
  refine (toOwners_any os hos.out.len _).mono ?_
  rintro e w6 ⟨rfl, hb⟩
  have HB7 := Lib.hid (HB5.out.trans (hb.mono HB5.out.size))
  clear HB5
  clear hb
  refine ⟨_, rfl, HB7.out, ?_⟩
  simp only [Act.put, List.setIfInBounds_toArray, List.set_cons_zero, List.set_cons_succ]
  refine la_call (i := 6) #[true, true, true, true, true, true, true, false, false, false, false, false] (some 22) rfl rfl (by kernel_rfl) rfl Try.func16 (by kernel_rfl) rfl #[.agg F.vals.toArray, .agg G.vals.toArray, .agg (vrow .i8 os).toArray] rfl (by simp only [List.map_toArray, List.map_cons, List.map_nil]; kernel_rfl) ?_
  refine (HSp.out _).mono ?_
  rintro e w8 ⟨vS10, rfl, hm0, hb⟩
  obtain ⟨AS10, cS10, hv⟩ := Kd.R_slice hm0
  subst hv
  have H9 := Lib.hid (ow_new (d := (Kd.int .i64)) rfl hm0 HB7.out)
  have HB10 := Lib.hid (HB7.out.trans (hb.mono HB7.out.size))
  clear HB7
  clear hm0 hb
  refine ⟨_, rfl, HB10.out, ?_⟩
  simp only [Act.put, List.setIfInBounds_toArray, List.set_cons_zero, List.set_cons_succ]
  refine la_fmove (i := 7) #[true, true, true, true, true, true, true, true, false, false, false, false] (some 15) rfl rfl (by kernel_rfl) HPB.out rfl (.tmp 22) rfl (.tuple #[.slice AS10 V.1.length cS10, .int .i64 V.2]) (by kernel_rfl) ?_
  simp only [Act.put, List.setIfInBounds_toArray, List.set_cons_zero, List.set_cons_succ]
  refine la_extract (i := 8) #[true, true, true, true, true, true, true, true, true, false, false, false] (some 23) rfl rfl (by kernel_rfl) HPB.out rfl (.tmp 15) 0 rfl #[.slice AS10 V.1.length cS10, .int .i64 V.2] (by kernel_rfl) (.slice AS10 V.1.length cS10) (by simp) ?_
  simp only [Act.put, List.setIfInBounds_toArray, List.set_cons_zero, List.set_cons_succ]
  refine la_extract (i := 9) #[true, true, true, true, true, true, true, true, true, true, false, false] (some 24) rfl rfl (by kernel_rfl) HPB.out rfl (.tmp 15) 1 rfl #[.slice AS10 V.1.length cS10, .int .i64 V.2] (by kernel_rfl) (.int .i64 V.2) (by simp) ?_
  simp only [Act.put, List.setIfInBounds_toArray, List.set_cons_zero, List.set_cons_succ]
  refine la_assign (i := 10) #[true, true, true, true, true, true, true, true, true, true, true, false] (some 7) rfl rfl (by kernel_rfl) rfl (.tmp 23) rfl (.slice AS10 V.1.length cS10) (by kernel_rfl) HB10.out ?_
  simp only [Act.put, List.setIfInBounds_toArray, List.set_cons_zero, List.set_cons_succ]
  refine la_assign (i := 11) #[true, true, true, true, true, true, true, true, true, true, true, true] (some 8) rfl rfl (by kernel_rfl) rfl (.tmp 24) rfl (.int .i64 V.2) (by kernel_rfl) HB10.out ?_
  simp only [Act.put, List.setIfInBounds_toArray, List.set_cons_zero, List.set_cons_succ]
  refine la_done (by kernel_rfl) ?_
  clear HPB
  go_upto_region 2 with (fail)
  refine la_start (S := fun w' => Below W.heap.size W w') (n := 12) #[false, false, false, false, false, false, false, false, false, false, false, false] (by kernel_rfl) (by kernel_rfl) (below_drewN HB10.out 1) (fun _ _ _ _ hd h => ⟨hd.symm.trans h.1, h.2⟩) (fun hPB => ?_)
  have HPB := Lib.hid hPB
  clear hPB
  have HB11 := Lib.hid (below_drewN HB10.out 1)
  clear HB10
  have H12 := Lib.hid (Kd.R_drewN H9.out 1)
  clear H9
  refine la_load (i := 0) #[true, false, false, false, false, false, false, false, false, false, false, false] (some 26) rfl rfl (by kernel_rfl) HPB.out rfl 27 (.tmp 3) rfl (w.heap.size) 0 (by kernel_rfl) F.vals _ (fun w1 h1 => (HC.out.step h1).blk (w.heap.size, F.vals, 27) (List.Mem.head _)) (by rw [List.drop_zero, List.take_length]) Try.underlying27 rfl (by rw [hF.out.len]; kernel_rfl) HB11.out ?_
  simp only [Act.put, List.setIfInBounds_toArray, List.set_cons_zero, List.set_cons_succ]
  refine la_load (i := 2) #[true, false, true, false, false, false, false, false, false, false, false, false] (some 28) rfl rfl (by kernel_rfl) HPB.out rfl 27 (.tmp 4) rfl (w.heap.size + 1) 0 (by kernel_rfl) G.vals _ (fun w1 h1 => (HC.out.step h1).blk (w.heap.size + 1, G.vals, 27) (List.Mem.tail _ (List.Mem.head _))) (by rw [List.drop_zero, List.take_length]) Try.underlying27 rfl (by rw [hG.out.len]; kernel_rfl) HB11.out ?_
  simp only [Act.put, List.setIfInBounds_toArray, List.set_cons_zero, List.set_cons_succ]
  refine la_load (i := 4) #[true, false, true, false, true, false, false, false, false, false, false, false] (some 30) rfl rfl (by kernel_rfl) HPB.out rfl 28 (.tmp 5) rfl (w.heap.size + 1 + 1) 0 (by kernel_rfl) (vrow .i8 os) _ (fun w1 h1 => (HC.out.step h1).blk (w.heap.size + 1 + 1, (vrow .i8 os), 28) (List.Mem.tail _ (List.Mem.tail _ (List.Mem.head _)))) (by rw [List.drop_zero, List.take_length]) Try.underlying28 rfl (by rw [vrow_len, hos.out.len]; kernel_rfl) HB11.out ?_
  simp only [Act.put, List.setIfInBounds_toArray, List.set_cons_zero, List.set_cons_succ]
  refine la_call (i := 1) #[true, true, true, false, true, false, false, false, false, false, false, false] (some 27) rfl rfl (by kernel_rfl) rfl Try.func10 (by kernel_rfl) rfl #[.agg F.vals.toArray] rfl (by simp only [List.map_toArray, List.map_cons, List.map_nil]; kernel_rfl) ?_
  refine (toField_any F hF.out _).mono ?_
  rintro e w13 ⟨rfl, hb⟩
  have HB14 := Lib.hid (HB11.out.trans (hb.mono HB11.out.size))
  clear HB11
  have H15 := Lib.hid (ow_below H12.out hb)
  clear H12
  clear hb
  refine ⟨_, rfl, HB14.out, ?_⟩
  simp only [Act.put, List.setIfInBounds_toArray, List.set_cons_zero, List.set_cons_succ]
  refine la_call (i := 3) #[true, true, true, true, true, false, false, false, false, false, false, false] (some 29) rfl rfl (by kernel_rfl) rfl Try.func10 (by kernel_rfl) rfl #[.agg G.vals.toArray] rfl (by simp only [List.map_toArray, List.map_cons, List.map_nil]; kernel_rfl) ?_
  refine (toField_any G hG.out _).mono ?_
  rintro e w16 ⟨rfl, hb⟩
  have HB17 := Lib.hid (HB14.out.trans (hb.mono HB14.out.size))
  clear HB14
  have H18 := Lib.hid (ow_below H15.out hb)
  clear H15
  clear hb
  refine ⟨_, rfl, HB17.out, ?_⟩
  simp only [Act.put, List.setIfInBounds_toArray, List.set_cons_zero, List.set_cons_succ]
  refine la_call (i := 5) #[true, true, true, true, true, true, false, false, false, false, false, false] (some 31) rfl rfl (by kernel_rfl) rfl Try.func11 (by kernel_rfl) rfl #[.agg (vrow .i8 os).toArray] rfl (by simp only [List.map_toArray, List.map_cons, List.map_nil]; kernel_rfl) ?_
  refine (toOwners_any os hos.out.len _).mono ?_
  rintro e w19 ⟨rfl, hb⟩
  have HB20 := Lib.hid (HB17.out.trans (hb.mono HB17.out.size))
  clear HB17
  have H21 := Lib.hid (ow_below H18.out hb)
  clear H18
  clear hb
  refine ⟨_, rfl, HB20.out, ?_⟩
  simp only [Act.put, List.setIfInBounds_toArray, List.set_cons_zero, List.set_cons_succ]
  refine la_call (i := 6) #[true, true, true, true, true, true, true, false, false, false, false, false] (some 32) rfl rfl (by kernel_rfl) rfl Try.func17 (by kernel_rfl) rfl #[.agg F.vals.toArray, .agg G.vals.toArray, .agg (vrow .i8 os).toArray] rfl (by simp only [List.map_toArray, List.map_cons, List.map_nil]; kernel_rfl) ?_
  refine (HIm.out _).mono ?_
  rintro e w22 ⟨vG20, rfl, hm0, hb⟩
  obtain ⟨AG20, cG20, hv⟩ := Kd.R_slice hm0
  subst hv
  have H23 := Lib.hid (ow_new (d := (Kd.int .i64)) rfl hm0 HB20.out)
  have HA24 := Lib.hid (apart_new hm0 H21.out).1
  have HA25 := Lib.hid (apart_new hm0 H21.out).2
  have HB26 := Lib.hid (HB20.out.trans (hb.mono HB20.out.size))
  clear HB20
  have H27 := Lib.hid (ow_below H21.out hb)
  clear H21
  clear hm0 hb
  refine ⟨_, rfl, HB26.out, ?_⟩
  simp only [Act.put, List.setIfInBounds_toArray, List.set_cons_zero, List.set_cons_succ]
  refine la_fmove (i := 7) #[true, true, true, true, true, true, true, true, false, false, false, false] (some 25) rfl rfl (by kernel_rfl) HPB.out rfl (.tmp 32) rfl (.tuple #[.slice AG20 V.1.length cG20, .int .i64 V.2]) (by kernel_rfl) ?_
  simp only [Act.put, List.setIfInBounds_toArray, List.set_cons_zero, List.set_cons_succ]
  refine la_extract (i := 8) #[true, true, true, true, true, true, true, true, true, false, false, false] (some 33) rfl rfl (by kernel_rfl) HPB.out rfl (.tmp 25) 0 rfl #[.slice AG20 V.1.length cG20, .int .i64 V.2] (by kernel_rfl) (.slice AG20 V.1.length cG20) (by simp) ?_
  simp only [Act.put, List.setIfInBounds_toArray, List.set_cons_zero, List.set_cons_succ]
  refine la_extract (i := 9) #[true, true, true, true, true, true, true, true, true, true, false, false] (some 34) rfl rfl (by kernel_rfl) HPB.out rfl (.tmp 25) 1 rfl #[.slice AG20 V.1.length cG20, .int .i64 V.2] (by kernel_rfl) (.int .i64 V.2) (by simp) ?_
  simp only [Act.put, List.setIfInBounds_toArray, List.set_cons_zero, List.set_cons_succ]
  refine la_assign (i := 10) #[true, true, true, true, true, true, true, true, true, true, true, false] (some 9) rfl rfl (by kernel_rfl) rfl (.tmp 33) rfl (.slice AG20 V.1.length cG20) (by kernel_rfl) HB26.out ?_
  simp only [Act.put, List.setIfInBounds_toArray, List.set_cons_zero, List.set_cons_succ]
  refine la_assign (i := 11) #[true, true, true, true, true, true, true, true, true, true, true, true] (some 10) rfl rfl (by kernel_rfl) rfl (.tmp 34) rfl (.int .i64 V.2) (by kernel_rfl) HB26.out ?_
  simp only [Act.put, List.setIfInBounds_toArray, List.set_cons_zero, List.set_cons_succ]
  refine la_done (by kernel_rfl) ?_
  clear HPB
  go_upto_region 3 with (fail)
  go_upto_region 13 with (first
    | ((with_reducible refine gate_dst (N := 37) rfl ?_); refine goesL_ (some 37) rfl rfl Try.func18 (by kernel_rfl) rfl #[.slice AG20 V.1.length cG20, .slice AS10 V.1.length cS10] rfl (by simp only [List.map_toArray, List.map_cons, List.map_nil]; kernel_rfl) ?_; refine (eqO_Int H23.out H27.out hVl.out).mono ?_; rintro e w28 ⟨rfl, hb⟩; refine ⟨_, rfl, ?_⟩; have HB29 := Lib.hid (HB26.out.trans (hb.mono HB26.out.size)); clear HB26; have H30 := Lib.hid (ow_below H27.out hb); clear H27; have H31 := Lib.hid (ow_below H23.out hb); clear H23; clear hb)
    | ((with_reducible refine gate_dst (N := 46) rfl ?_); refine goesL_ (some 46) rfl rfl Try.func19 (by kernel_rfl) rfl #[.slice AG20 V.1.length cG20, .int .i64 1] rfl (by simp only [List.map_toArray, List.map_cons, List.map_nil]; kernel_rfl) ?_; refine (markO_Int HB29.out H31.out M0.out).mono ?_; rintro e w32 ⟨rfl, ho, hbb, hkk⟩; refine ⟨_, rfl, ?_⟩; have HB33 := Lib.hid hbb; have H34 := Lib.hid ho; clear HB29; have H35 := Lib.hid (ow_kept H30.out HA24.out hkk); clear H30; clear H31; clear ho hbb hkk)
    | ((with_reducible refine gate_dst (N := 49) rfl ?_); refine goesL_ (some 49) rfl rfl Try.func20 (by kernel_rfl) rfl #[.slice AG20 V.1.length cG20, .int .i64 1] rfl (by simp only [List.map_toArray, List.map_cons, List.map_nil]; kernel_rfl) ?_; refine (heldO_Int M0l.out.symm H34.out M0h.out).mono ?_; rintro e w36 ⟨rfl, hb⟩; refine ⟨_, rfl, ?_⟩; have HB37 := Lib.hid (HB33.out.trans (hb.mono HB33.out.size)); clear HB33; have H38 := Lib.hid (ow_below H35.out hb); clear H35; have H39 := Lib.hid (ow_below H34.out hb); clear H34; clear hb))
  refine la_start (S := fun w' => Below W.heap.size W w') (n := 12) #[false, false, false, false, false, false, false, false, false, false, false, false] (by kernel_rfl) (by kernel_rfl) (below_drewN HB37.out 1) (fun _ _ _ _ hd h => ⟨hd.symm.trans h.1, h.2⟩) (fun hPB => ?_)
  have HPB := Lib.hid hPB
  clear hPB
  have HB40 := Lib.hid (below_drewN HB37.out 1)
  clear HB37
  have H41 := Lib.hid (Kd.R_drewN H38.out 1)
  clear H38
  have H42 := Lib.hid (Kd.R_drewN H39.out 1)
  clear H39
  refine la_load (i := 0) #[true, false, false, false, false, false, false, false, false, false, false, false] (some 56) rfl rfl (by kernel_rfl) HPB.out rfl 27 (.tmp 3) rfl (w.heap.size) 0 (by kernel_rfl) F.vals _ (fun w1 h1 => (HC.out.step h1).blk (w.heap.size, F.vals, 27) (List.Mem.head _)) (by rw [List.drop_zero, List.take_length]) Try.underlying27 rfl (by rw [hF.out.len]; kernel_rfl) HB40.out ?_
  simp only [Act.put, List.setIfInBounds_toArray, List.set_cons_zero, List.set_cons_succ]
  refine la_load (i := 2) #[true, false, true, false, false, false, false, false, false, false, false, false] (some 58) rfl rfl (by kernel_rfl) HPB.out rfl 27 (.tmp 4) rfl (w.heap.size + 1) 0 (by kernel_rfl) G.vals _ (fun w1 h1 => (HC.out.step h1).blk (w.heap.size + 1, G.vals, 27) (List.Mem.tail _ (List.Mem.head _))) (by rw [List.drop_zero, List.take_length]) Try.underlying27 rfl (by rw [hG.out.len]; kernel_rfl) HB40.out ?_
  simp only [Act.put, List.setIfInBounds_toArray, List.set_cons_zero, List.set_cons_succ]
  refine la_load (i := 4) #[true, false, true, false, true, false, false, false, false, false, false, false] (some 60) rfl rfl (by kernel_rfl) HPB.out rfl 28 (.tmp 5) rfl (w.heap.size + 1 + 1) 0 (by kernel_rfl) (vrow .i8 os) _ (fun w1 h1 => (HC.out.step h1).blk (w.heap.size + 1 + 1, (vrow .i8 os), 28) (List.Mem.tail _ (List.Mem.tail _ (List.Mem.head _)))) (by rw [List.drop_zero, List.take_length]) Try.underlying28 rfl (by rw [vrow_len, hos.out.len]; kernel_rfl) HB40.out ?_
  simp only [Act.put, List.setIfInBounds_toArray, List.set_cons_zero, List.set_cons_succ]
  refine la_call (i := 1) #[true, true, true, false, true, false, false, false, false, false, false, false] (some 57) rfl rfl (by kernel_rfl) rfl Try.func10 (by kernel_rfl) rfl #[.agg F.vals.toArray] rfl (by simp only [List.map_toArray, List.map_cons, List.map_nil]; kernel_rfl) ?_
  refine (toField_any F hF.out _).mono ?_
  rintro e w43 ⟨rfl, hb⟩
  have HB44 := Lib.hid (HB40.out.trans (hb.mono HB40.out.size))
  clear HB40
  have H45 := Lib.hid (ow_below H41.out hb)
  clear H41
  have H46 := Lib.hid (ow_below H42.out hb)
  clear H42
  clear hb
  refine ⟨_, rfl, HB44.out, ?_⟩
  simp only [Act.put, List.setIfInBounds_toArray, List.set_cons_zero, List.set_cons_succ]
  refine la_call (i := 3) #[true, true, true, true, true, false, false, false, false, false, false, false] (some 59) rfl rfl (by kernel_rfl) rfl Try.func10 (by kernel_rfl) rfl #[.agg G.vals.toArray] rfl (by simp only [List.map_toArray, List.map_cons, List.map_nil]; kernel_rfl) ?_
  refine (toField_any G hG.out _).mono ?_
  rintro e w47 ⟨rfl, hb⟩
  have HB48 := Lib.hid (HB44.out.trans (hb.mono HB44.out.size))
  clear HB44
  have H49 := Lib.hid (ow_below H45.out hb)
  clear H45
  have H50 := Lib.hid (ow_below H46.out hb)
  clear H46
  clear hb
  refine ⟨_, rfl, HB48.out, ?_⟩
  simp only [Act.put, List.setIfInBounds_toArray, List.set_cons_zero, List.set_cons_succ]
  refine la_call (i := 5) #[true, true, true, true, true, true, false, false, false, false, false, false] (some 61) rfl rfl (by kernel_rfl) rfl Try.func11 (by kernel_rfl) rfl #[.agg (vrow .i8 os).toArray] rfl (by simp only [List.map_toArray, List.map_cons, List.map_nil]; kernel_rfl) ?_
  refine (toOwners_any os hos.out.len _).mono ?_
  rintro e w51 ⟨rfl, hb⟩
  have HB52 := Lib.hid (HB48.out.trans (hb.mono HB48.out.size))
  clear HB48
  have H53 := Lib.hid (ow_below H49.out hb)
  clear H49
  have H54 := Lib.hid (ow_below H50.out hb)
  clear H50
  clear hb
  refine ⟨_, rfl, HB52.out, ?_⟩
  simp only [Act.put, List.setIfInBounds_toArray, List.set_cons_zero, List.set_cons_succ]
  refine la_call (i := 6) #[true, true, true, true, true, true, true, false, false, false, false, false] (some 62) rfl rfl (by kernel_rfl) rfl Try.func17 (by kernel_rfl) rfl #[.agg F.vals.toArray, .agg G.vals.toArray, .agg (vrow .i8 os).toArray] rfl (by simp only [List.map_toArray, List.map_cons, List.map_nil]; kernel_rfl) ?_
  refine (HIm.out _).mono ?_
  rintro e w55 ⟨vG30, rfl, hm0, hb⟩
  obtain ⟨AG30, cG30, hv⟩ := Kd.R_slice hm0
  subst hv
  have H56 := Lib.hid (ow_new (d := (Kd.int .i64)) rfl hm0 HB52.out)
  have HA57 := Lib.hid (apart_new hm0 H53.out).1
  have HA58 := Lib.hid (apart_new hm0 H53.out).2
  have HA59 := Lib.hid (apart_new hm0 H54.out).1
  have HA60 := Lib.hid (apart_new hm0 H54.out).2
  have HB61 := Lib.hid (HB52.out.trans (hb.mono HB52.out.size))
  clear HB52
  have H62 := Lib.hid (ow_below H53.out hb)
  clear H53
  have H63 := Lib.hid (ow_below H54.out hb)
  clear H54
  clear hm0 hb
  refine ⟨_, rfl, HB61.out, ?_⟩
  simp only [Act.put, List.setIfInBounds_toArray, List.set_cons_zero, List.set_cons_succ]
  refine la_fmove (i := 7) #[true, true, true, true, true, true, true, true, false, false, false, false] (some 55) rfl rfl (by kernel_rfl) HPB.out rfl (.tmp 62) rfl (.tuple #[.slice AG30 V.1.length cG30, .int .i64 V.2]) (by kernel_rfl) ?_
  simp only [Act.put, List.setIfInBounds_toArray, List.set_cons_zero, List.set_cons_succ]
  refine la_extract (i := 8) #[true, true, true, true, true, true, true, true, true, false, false, false] (some 63) rfl rfl (by kernel_rfl) HPB.out rfl (.tmp 55) 0 rfl #[.slice AG30 V.1.length cG30, .int .i64 V.2] (by kernel_rfl) (.slice AG30 V.1.length cG30) (by simp) ?_
  simp only [Act.put, List.setIfInBounds_toArray, List.set_cons_zero, List.set_cons_succ]
  refine la_extract (i := 9) #[true, true, true, true, true, true, true, true, true, true, false, false] (some 64) rfl rfl (by kernel_rfl) HPB.out rfl (.tmp 55) 1 rfl #[.slice AG30 V.1.length cG30, .int .i64 V.2] (by kernel_rfl) (.int .i64 V.2) (by simp) ?_
  simp only [Act.put, List.setIfInBounds_toArray, List.set_cons_zero, List.set_cons_succ]
  refine la_assign (i := 10) #[true, true, true, true, true, true, true, true, true, true, true, false] (some 13) rfl rfl (by kernel_rfl) rfl (.tmp 63) rfl (.slice AG30 V.1.length cG30) (by kernel_rfl) HB61.out ?_
  simp only [Act.put, List.setIfInBounds_toArray, List.set_cons_zero, List.set_cons_succ]
  refine la_assign (i := 11) #[true, true, true, true, true, true, true, true, true, true, true, true] (some 14) rfl rfl (by kernel_rfl) rfl (.tmp 64) rfl (.int .i64 V.2) (by kernel_rfl) HB61.out ?_
  simp only [Act.put, List.setIfInBounds_toArray, List.set_cons_zero, List.set_cons_succ]
  refine la_done (by kernel_rfl) ?_
  clear HPB
  go_upto_region 14 with (fail)
  go_wp2_with (first
    | ((with_reducible refine gate_dst (N := 67) rfl ?_); refine goesL_ (some 67) rfl rfl Try.func18 (by kernel_rfl) rfl #[.slice AG30 V.1.length cG30, .slice AS10 V.1.length cS10] rfl (by simp only [List.map_toArray, List.map_cons, List.map_nil]; kernel_rfl) ?_; refine (eqO_Int H56.out H62.out hVl.out).mono ?_; rintro e w64 ⟨rfl, hb⟩; refine ⟨_, rfl, ?_⟩; have HB65 := Lib.hid (HB61.out.trans (hb.mono HB61.out.size)); clear HB61; have H66 := Lib.hid (ow_below H62.out hb); clear H62; have H67 := Lib.hid (ow_below H63.out hb); clear H63; have H68 := Lib.hid (ow_below H56.out hb); clear H56; clear hb)
    | ((with_reducible refine gate_dst (N := 76) rfl ?_); refine goesL_ (some 76) rfl rfl Try.func20 (by kernel_rfl) rfl #[.slice AG20 V.1.length cG20, .int .i64 1] rfl (by simp only [List.map_toArray, List.map_cons, List.map_nil]; kernel_rfl) ?_; refine (heldO_Int M0l.out.symm H67.out M0h.out).mono ?_; rintro e w69 ⟨rfl, hb⟩; refine ⟨_, rfl, ?_⟩; have HB70 := Lib.hid (HB65.out.trans (hb.mono HB65.out.size)); clear HB65; have H71 := Lib.hid (ow_below H66.out hb); clear H66; have H72 := Lib.hid (ow_below H67.out hb); clear H67; have H73 := Lib.hid (ow_below H68.out hb); clear H68; clear hb))
  go_ret
  exact ⟨rfl, (HC.out.step HB70.out).below⟩

end Go.Proofs.Ytpkapkgfmibooaa.LLossByOwner
