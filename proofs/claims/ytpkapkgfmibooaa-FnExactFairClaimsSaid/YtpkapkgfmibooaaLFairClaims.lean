/- The law FnExactFairClaims, walked: the program and the reference answer the same. No condition. -/
import Derived.Test.YtpkapkgfmibooaaGB
import Derived.Test.YtpkapkgfmibooaaGC
import Derived.Test.YtpkapkgfmibooaaFD
import Derived.Test.YtpkapkgfmibooaaMkInt
namespace Go.Proofs.Ytpkapkgfmibooaa.LFairClaims
open Go.RowKit Go.Proofs.YtpkapkgfmibooaaW.PrintWords Go.Proofs.YtpkapkgfmibooaaW.PrintLast Go.Proofs.Ytpkapkgfmibooaa.PAll
set_option linter.unusedSimpArgs false
set_option linter.unusedVariables false

set_option maxRecDepth 100000 in
set_option maxHeartbeats 8000000 in
theorem walk (w : World) (cs0 : List Value) (i0 : R.Ints fldKinds cs0) (cs1 : List Value) (i1 : R.Ints fldKinds cs1) (cs2 : List Value) (i2 : R.Ints (List.replicate 100 .i8) cs2) (A3 : Option Addr) (c3 : Nat) (ts : List Int) (hc3 : ts.length ≤ c3) (hm3 : ts.length ≤ maxLen) (hw3 : ∀ x ∈ ts, (Lit.int .i64 x).wf = true) (hC3 : Kd.C (Kd.int .i64) w A3 ts.length ts) :
    Calls Try.prog 6 #[.agg cs0.toArray, .agg cs1.toArray, .agg cs2.toArray, .slice A3 ts.length c3] w fun e w' => e = .returned (.bool true) ∧ Below w.heap.size w w' := by
  obtain ⟨F, hF', rfl⟩ := fld_of_ints i0
  have hF := Lib.hid hF'
  clear i0 hF'
  obtain ⟨G, hG', rfl⟩ := fld_of_ints i1
  have hG := Lib.hid hG'
  clear i1 hG'
  obtain ⟨os, hos', rfl⟩ := os_of_ints i2
  have hos := Lib.hid hos'
  clear i2 hos'
  by_cases hlen3 : ts.length ≤ 1048576
  case neg =>
    have hl1 : (1048576 : Int) < (ts.length : Int) := by omega
    have hmm := hm3
    unfold maxLen at hmm
    clear hC3 hw3 hm3
    go_enter Try.func6, Try.ntmps6
    go_wp2
    go_ret
    exact ⟨rfl, (boxed3 w F.vals G.vals (vrow .i8 os) 27 27 28).below⟩
  obtain ⟨V, hV⟩ : ∃ V, V = frRes F G os ts := ⟨_, rfl⟩
  have HSp' := fun A n w1 hA hlc => sFair_any F G hF.out hG.out os hos.out ts hlen3 A n w1 hA hlc
  have HIm' := fun A n w1 hA hlc => iFair_any F G hF.out hG.out os hos.out ts hlen3 A n w1 hA hlc
  have hVl' := frRes_len F G os ts
  rw [← hV] at HSp' HIm' hVl'
  clear hV
  have HSp := Lib.hid HSp'
  clear HSp'
  have HIm := Lib.hid HIm'
  clear HIm'
  have hVl := Lib.hid hVl'
  clear hVl'
  obtain ⟨kx3, mx3, yx3, g1, g2, g3, gx3⟩ := marks_Int ts hlen3
  have gy3 : 1 ≤ mx3 ∧ mx3 ≤ 1048577 := by omega
  clear gx3
  have MX3 := Lib.hid g1
  have MX3l := Lib.hid g2
  clear g1 g2 g3
  have hgd3 : decide (mx3 < 0) = false := decide_eq_false (by omega)
  obtain ⟨k0, m0, y0, g1, g2, g3, gm0⟩ := marks_Int V.1 hVl.out
  have gn0 : 1 ≤ m0 := by omega
  clear gm0
  have M0 := Lib.hid g1
  have M0l := Lib.hid g2
  have M0h := Lib.hid g3
  clear g1 g2 g3
  have hmm0 : (m0 != m0) = false := by simp
  have hV0 : (V.2 != V.2) = false := by simp
  have HCP3 := Lib.hid hC3
  have HCc3 := Lib.hid hc3
  have hmm3p := hm3
  unfold maxLen at hmm3p
  clear hC3 hc3 hm3
  have HWf3 := Lib.hid hw3
  clear hw3
  go_enter Try.func6, Try.ntmps6
  go_upto_region 1 with (fail)
  obtain ⟨W, hW⟩ : ∃ W, W = ((w.alloc (.cells F.vals.toArray 27)).alloc (.cells G.vals.toArray 27)).alloc (.cells (vrow .i8 os).toArray 28) := ⟨_, rfl⟩
  have HC := Lib.hid (boxed3 w F.vals G.vals (vrow .i8 os) 27 27 28)
  rw [← hW] at HC ⊢
  clear hW
  have HB0 := Lib.hid (Below.refl W.heap.size W)
  go_upto_region 3 with (first
    | fail)
  refine la_start (S := fun w' => Below W.heap.size W w') (n := 14) #[false, false, false, false, false, false, false, false, false, false, false, false, false, false] (by kernel_rfl) (by kernel_rfl) (below_drewN HB0.out 1) (fun _ _ _ _ hd h => ⟨hd.symm.trans h.1, h.2⟩) (fun hPB => ?_)
  have HPB := Lib.hid hPB
  clear hPB
  have HB1 := Lib.hid (below_drewN HB0.out 1)
  clear HB0
  refine la_load (i := 0) #[true, false, false, false, false, false, false, false, false, false, false, false, false, false] (some 23) rfl rfl (by kernel_rfl) HPB.out rfl 27 (.tmp 4) rfl (w.heap.size) 0 (by kernel_rfl) F.vals _ (fun w1 h1 => (HC.out.step h1).blk (w.heap.size, F.vals, 27) (List.Mem.head _)) (by rw [List.drop_zero, List.take_length]) Try.underlying27 rfl (by rw [hF.out.len]; kernel_rfl) HB1.out ?_
  simp only [Act.put, List.setIfInBounds_toArray, List.set_cons_zero, List.set_cons_succ]
  refine la_load (i := 2) #[true, false, true, false, false, false, false, false, false, false, false, false, false, false] (some 25) rfl rfl (by kernel_rfl) HPB.out rfl 27 (.tmp 5) rfl (w.heap.size + 1) 0 (by kernel_rfl) G.vals _ (fun w1 h1 => (HC.out.step h1).blk (w.heap.size + 1, G.vals, 27) (List.Mem.tail _ (List.Mem.head _))) (by rw [List.drop_zero, List.take_length]) Try.underlying27 rfl (by rw [hG.out.len]; kernel_rfl) HB1.out ?_
  simp only [Act.put, List.setIfInBounds_toArray, List.set_cons_zero, List.set_cons_succ]
  refine la_load (i := 4) #[true, false, true, false, true, false, false, false, false, false, false, false, false, false] (some 27) rfl rfl (by kernel_rfl) HPB.out rfl 28 (.tmp 6) rfl (w.heap.size + 1 + 1) 0 (by kernel_rfl) (vrow .i8 os) _ (fun w1 h1 => (HC.out.step h1).blk (w.heap.size + 1 + 1, (vrow .i8 os), 28) (List.Mem.tail _ (List.Mem.tail _ (List.Mem.head _)))) (by rw [List.drop_zero, List.take_length]) Try.underlying28 rfl (by rw [vrow_len, hos.out.len]; kernel_rfl) HB1.out ?_
  simp only [Act.put, List.setIfInBounds_toArray, List.set_cons_zero, List.set_cons_succ]
  refine la_fmove (i := 6) #[true, false, true, false, true, false, true, false, false, false, false, false, false, false] (some 29) rfl rfl (by kernel_rfl) HPB.out rfl (.tmp 3) rfl (.slice A3 ts.length c3) (by kernel_rfl) ?_
  simp only [Act.put, List.setIfInBounds_toArray, List.set_cons_zero, List.set_cons_succ]
  refine la_call (i := 1) #[true, true, true, false, true, false, true, false, false, false, false, false, false, false] (some 24) rfl rfl (by kernel_rfl) rfl Try.func10 (by kernel_rfl) rfl #[.agg F.vals.toArray] rfl (by simp only [List.map_toArray, List.map_cons, List.map_nil]; kernel_rfl) ?_
  refine (toField_any F hF.out _).mono ?_
  rintro e w2 ⟨rfl, hb⟩
  have HB3 := Lib.hid (HB1.out.trans (hb.mono HB1.out.size))
  clear HB1
  clear hb
  refine ⟨_, rfl, HB3.out, ?_⟩
  simp only [Act.put, List.setIfInBounds_toArray, List.set_cons_zero, List.set_cons_succ]
  refine la_call (i := 3) #[true, true, true, true, true, false, true, false, false, false, false, false, false, false] (some 26) rfl rfl (by kernel_rfl) rfl Try.func10 (by kernel_rfl) rfl #[.agg G.vals.toArray] rfl (by simp only [List.map_toArray, List.map_cons, List.map_nil]; kernel_rfl) ?_
  refine (toField_any G hG.out _).mono ?_
  rintro e w4 ⟨rfl, hb⟩
  have HB5 := Lib.hid (HB3.out.trans (hb.mono HB3.out.size))
  clear HB3
  clear hb
  refine ⟨_, rfl, HB5.out, ?_⟩
  simp only [Act.put, List.setIfInBounds_toArray, List.set_cons_zero, List.set_cons_succ]
  refine la_call (i := 5) #[true, true, true, true, true, true, true, false, false, false, false, false, false, false] (some 28) rfl rfl (by kernel_rfl) rfl Try.func11 (by kernel_rfl) rfl #[.agg (vrow .i8 os).toArray] rfl (by simp only [List.map_toArray, List.map_cons, List.map_nil]; kernel_rfl) ?_
  refine (toOwners_any os hos.out.len _).mono ?_
  rintro e w6 ⟨rfl, hb⟩
  have HB7 := Lib.hid (HB5.out.trans (hb.mono HB5.out.size))
  clear HB5
  clear hb
  refine ⟨_, rfl, HB7.out, ?_⟩
  simp only [Act.put, List.setIfInBounds_toArray, List.set_cons_zero, List.set_cons_succ]
  refine la_call (i := 7) #[true, true, true, true, true, true, true, true, false, false, false, false, false, false] (some 30) rfl rfl (by kernel_rfl) rfl Try.func22 (by kernel_rfl) rfl #[.slice A3 ts.length c3] rfl (by simp only [List.map_toArray, List.map_cons, List.map_nil]; kernel_rfl) ?_
  refine (toInt64S_any (w := _) ts  (Kd.C_below HCP3.out (HC.out.step HB7.out).below) hlen3 HCc3.out).mono ?_
  rintro e w8 ⟨vv, rfl, hm, hb⟩
  obtain ⟨AX1, cX1, hv⟩ := Kd.R_slice hm
  subst hv
  have H9 := Lib.hid (ow_new (d := (Kd.int .i64)) rfl hm HB7.out)
  have HB10 := Lib.hid (HB7.out.trans (hb.mono HB7.out.size))
  clear HB7
  clear hm hb
  refine ⟨_, rfl, HB10.out, ?_⟩
  simp only [Act.put, List.setIfInBounds_toArray, List.set_cons_zero, List.set_cons_succ]
  refine la_call (i := 8) #[true, true, true, true, true, true, true, true, true, false, false, false, false, false] (some 31) rfl rfl (by kernel_rfl) rfl Try.func24 (by kernel_rfl) rfl #[.agg F.vals.toArray, .agg G.vals.toArray, .agg (vrow .i8 os).toArray, .slice AX1 ts.length cX1] rfl (by simp only [List.map_toArray, List.map_cons, List.map_nil]; kernel_rfl) ?_
  refine (HSp.out _ _ _ (ow_C H9.out) (ow_cap H9.out)).mono ?_
  rintro e w11 ⟨vS20, rfl, hm0, hb⟩
  obtain ⟨AS20, cS20, hv⟩ := Kd.R_slice hm0
  subst hv
  have H12 := Lib.hid (ow_new (d := (Kd.int .i64)) rfl hm0 HB10.out)
  have HA13 := Lib.hid (apart_new hm0 H9.out).1
  have HA14 := Lib.hid (apart_new hm0 H9.out).2
  have HB15 := Lib.hid (HB10.out.trans (hb.mono HB10.out.size))
  clear HB10
  have H16 := Lib.hid (ow_below H9.out hb)
  clear H9
  clear hm0 hb
  refine ⟨_, rfl, HB15.out, ?_⟩
  simp only [Act.put, List.setIfInBounds_toArray, List.set_cons_zero, List.set_cons_succ]
  refine la_fmove (i := 9) #[true, true, true, true, true, true, true, true, true, true, false, false, false, false] (some 22) rfl rfl (by kernel_rfl) HPB.out rfl (.tmp 31) rfl (.tuple #[.slice AS20 V.1.length cS20, .int .i64 V.2]) (by kernel_rfl) ?_
  simp only [Act.put, List.setIfInBounds_toArray, List.set_cons_zero, List.set_cons_succ]
  refine la_extract (i := 10) #[true, true, true, true, true, true, true, true, true, true, true, false, false, false] (some 32) rfl rfl (by kernel_rfl) HPB.out rfl (.tmp 22) 0 rfl #[.slice AS20 V.1.length cS20, .int .i64 V.2] (by kernel_rfl) (.slice AS20 V.1.length cS20) (by simp) ?_
  simp only [Act.put, List.setIfInBounds_toArray, List.set_cons_zero, List.set_cons_succ]
  refine la_extract (i := 11) #[true, true, true, true, true, true, true, true, true, true, true, true, false, false] (some 33) rfl rfl (by kernel_rfl) HPB.out rfl (.tmp 22) 1 rfl #[.slice AS20 V.1.length cS20, .int .i64 V.2] (by kernel_rfl) (.int .i64 V.2) (by simp) ?_
  simp only [Act.put, List.setIfInBounds_toArray, List.set_cons_zero, List.set_cons_succ]
  refine la_assign (i := 12) #[true, true, true, true, true, true, true, true, true, true, true, true, true, false] (some 9) rfl rfl (by kernel_rfl) rfl (.tmp 32) rfl (.slice AS20 V.1.length cS20) (by kernel_rfl) HB15.out ?_
  simp only [Act.put, List.setIfInBounds_toArray, List.set_cons_zero, List.set_cons_succ]
  refine la_assign (i := 13) #[true, true, true, true, true, true, true, true, true, true, true, true, true, true] (some 10) rfl rfl (by kernel_rfl) rfl (.tmp 33) rfl (.int .i64 V.2) (by kernel_rfl) HB15.out ?_
  simp only [Act.put, List.setIfInBounds_toArray, List.set_cons_zero, List.set_cons_succ]
  refine la_done (by kernel_rfl) ?_
  clear HPB
  go_upto_region 4 with (fail)
  go_upto_region 5 with (first
    | ((with_reducible refine gate_dst (N := 35) rfl ?_); refine goesL_ (some 35) rfl rfl Try.func22 (by kernel_rfl) rfl #[.slice A3 ts.length c3] rfl (by simp only [List.map_toArray, List.map_cons, List.map_nil]; kernel_rfl) ?_; refine (toInt64S_any (w := _) ts  (Kd.C_below HCP3.out (HC.out.step HB15.out).below) hlen3 HCc3.out).mono ?_; rintro e w17 ⟨vv, rfl, hm, hb⟩; refine ⟨_, rfl, ?_⟩; obtain ⟨AX3, cX3, hv⟩ := Kd.R_slice hm; subst hv; have H18 := Lib.hid (ow_new (d := (Kd.int .i64)) rfl hm HB15.out); have HA19 := Lib.hid (apart_new hm H16.out).1; have HA20 := Lib.hid (apart_new hm H16.out).2; have HA21 := Lib.hid (apart_new hm H12.out).1; have HA22 := Lib.hid (apart_new hm H12.out).2; have HB23 := Lib.hid (HB15.out.trans (hb.mono HB15.out.size)); clear HB15; have H24 := Lib.hid (ow_below H16.out hb); clear H16; have H25 := Lib.hid (ow_below H12.out hb); clear H12; clear hm hb))
  refine la_start (S := fun w' => Below W.heap.size W w') (n := 13) #[false, false, false, false, false, false, false, false, false, false, false, false, false] (by kernel_rfl) (by kernel_rfl) (below_drewN HB23.out 1) (fun _ _ _ _ hd h => ⟨hd.symm.trans h.1, h.2⟩) (fun hPB => ?_)
  have HPB := Lib.hid hPB
  clear hPB
  have HB26 := Lib.hid (below_drewN HB23.out 1)
  clear HB23
  have H27 := Lib.hid (Kd.R_drewN H24.out 1)
  clear H24
  have H28 := Lib.hid (Kd.R_drewN H25.out 1)
  clear H25
  have H29 := Lib.hid (Kd.R_drewN H18.out 1)
  clear H18
  refine la_load (i := 0) #[true, false, false, false, false, false, false, false, false, false, false, false, false] (some 37) rfl rfl (by kernel_rfl) HPB.out rfl 27 (.tmp 4) rfl (w.heap.size) 0 (by kernel_rfl) F.vals _ (fun w1 h1 => (HC.out.step h1).blk (w.heap.size, F.vals, 27) (List.Mem.head _)) (by rw [List.drop_zero, List.take_length]) Try.underlying27 rfl (by rw [hF.out.len]; kernel_rfl) HB26.out ?_
  simp only [Act.put, List.setIfInBounds_toArray, List.set_cons_zero, List.set_cons_succ]
  refine la_load (i := 2) #[true, false, true, false, false, false, false, false, false, false, false, false, false] (some 39) rfl rfl (by kernel_rfl) HPB.out rfl 27 (.tmp 5) rfl (w.heap.size + 1) 0 (by kernel_rfl) G.vals _ (fun w1 h1 => (HC.out.step h1).blk (w.heap.size + 1, G.vals, 27) (List.Mem.tail _ (List.Mem.head _))) (by rw [List.drop_zero, List.take_length]) Try.underlying27 rfl (by rw [hG.out.len]; kernel_rfl) HB26.out ?_
  simp only [Act.put, List.setIfInBounds_toArray, List.set_cons_zero, List.set_cons_succ]
  refine la_load (i := 4) #[true, false, true, false, true, false, false, false, false, false, false, false, false] (some 41) rfl rfl (by kernel_rfl) HPB.out rfl 28 (.tmp 6) rfl (w.heap.size + 1 + 1) 0 (by kernel_rfl) (vrow .i8 os) _ (fun w1 h1 => (HC.out.step h1).blk (w.heap.size + 1 + 1, (vrow .i8 os), 28) (List.Mem.tail _ (List.Mem.tail _ (List.Mem.head _)))) (by rw [List.drop_zero, List.take_length]) Try.underlying28 rfl (by rw [vrow_len, hos.out.len]; kernel_rfl) HB26.out ?_
  simp only [Act.put, List.setIfInBounds_toArray, List.set_cons_zero, List.set_cons_succ]
  refine la_fmove (i := 6) #[true, false, true, false, true, false, true, false, false, false, false, false, false] (some 43) rfl rfl (by kernel_rfl) HPB.out rfl (.tmp 11) rfl (.slice AX3 ts.length cX3) (by kernel_rfl) ?_
  simp only [Act.put, List.setIfInBounds_toArray, List.set_cons_zero, List.set_cons_succ]
  refine la_call (i := 1) #[true, true, true, false, true, false, true, false, false, false, false, false, false] (some 38) rfl rfl (by kernel_rfl) rfl Try.func10 (by kernel_rfl) rfl #[.agg F.vals.toArray] rfl (by simp only [List.map_toArray, List.map_cons, List.map_nil]; kernel_rfl) ?_
  refine (toField_any F hF.out _).mono ?_
  rintro e w30 ⟨rfl, hb⟩
  have HB31 := Lib.hid (HB26.out.trans (hb.mono HB26.out.size))
  clear HB26
  have H32 := Lib.hid (ow_below H27.out hb)
  clear H27
  have H33 := Lib.hid (ow_below H28.out hb)
  clear H28
  have H34 := Lib.hid (ow_below H29.out hb)
  clear H29
  clear hb
  refine ⟨_, rfl, HB31.out, ?_⟩
  simp only [Act.put, List.setIfInBounds_toArray, List.set_cons_zero, List.set_cons_succ]
  refine la_call (i := 3) #[true, true, true, true, true, false, true, false, false, false, false, false, false] (some 40) rfl rfl (by kernel_rfl) rfl Try.func10 (by kernel_rfl) rfl #[.agg G.vals.toArray] rfl (by simp only [List.map_toArray, List.map_cons, List.map_nil]; kernel_rfl) ?_
  refine (toField_any G hG.out _).mono ?_
  rintro e w35 ⟨rfl, hb⟩
  have HB36 := Lib.hid (HB31.out.trans (hb.mono HB31.out.size))
  clear HB31
  have H37 := Lib.hid (ow_below H32.out hb)
  clear H32
  have H38 := Lib.hid (ow_below H33.out hb)
  clear H33
  have H39 := Lib.hid (ow_below H34.out hb)
  clear H34
  clear hb
  refine ⟨_, rfl, HB36.out, ?_⟩
  simp only [Act.put, List.setIfInBounds_toArray, List.set_cons_zero, List.set_cons_succ]
  refine la_call (i := 5) #[true, true, true, true, true, true, true, false, false, false, false, false, false] (some 42) rfl rfl (by kernel_rfl) rfl Try.func11 (by kernel_rfl) rfl #[.agg (vrow .i8 os).toArray] rfl (by simp only [List.map_toArray, List.map_cons, List.map_nil]; kernel_rfl) ?_
  refine (toOwners_any os hos.out.len _).mono ?_
  rintro e w40 ⟨rfl, hb⟩
  have HB41 := Lib.hid (HB36.out.trans (hb.mono HB36.out.size))
  clear HB36
  have H42 := Lib.hid (ow_below H37.out hb)
  clear H37
  have H43 := Lib.hid (ow_below H38.out hb)
  clear H38
  have H44 := Lib.hid (ow_below H39.out hb)
  clear H39
  clear hb
  refine ⟨_, rfl, HB41.out, ?_⟩
  simp only [Act.put, List.setIfInBounds_toArray, List.set_cons_zero, List.set_cons_succ]
  refine la_call (i := 7) #[true, true, true, true, true, true, true, true, false, false, false, false, false] (some 44) rfl rfl (by kernel_rfl) rfl Try.func25 (by kernel_rfl) rfl #[.agg F.vals.toArray, .agg G.vals.toArray, .agg (vrow .i8 os).toArray, .slice AX3 ts.length cX3] rfl (by simp only [List.map_toArray, List.map_cons, List.map_nil]; kernel_rfl) ?_
  refine (HIm.out _ _ _ (ow_C H44.out) (ow_cap H44.out)).mono ?_
  rintro e w45 ⟨vG40, rfl, hm0, hb⟩
  obtain ⟨AG40, cG40, hv⟩ := Kd.R_slice hm0
  subst hv
  have H46 := Lib.hid (ow_new (d := (Kd.int .i64)) rfl hm0 HB41.out)
  have HA47 := Lib.hid (apart_new hm0 H42.out).1
  have HA48 := Lib.hid (apart_new hm0 H42.out).2
  have HA49 := Lib.hid (apart_new hm0 H43.out).1
  have HA50 := Lib.hid (apart_new hm0 H43.out).2
  have HA51 := Lib.hid (apart_new hm0 H44.out).1
  have HA52 := Lib.hid (apart_new hm0 H44.out).2
  have HB53 := Lib.hid (HB41.out.trans (hb.mono HB41.out.size))
  clear HB41
  have H54 := Lib.hid (ow_below H42.out hb)
  clear H42
  have H55 := Lib.hid (ow_below H43.out hb)
  clear H43
  have H56 := Lib.hid (ow_below H44.out hb)
  clear H44
  clear hm0 hb
  refine ⟨_, rfl, HB53.out, ?_⟩
  simp only [Act.put, List.setIfInBounds_toArray, List.set_cons_zero, List.set_cons_succ]
  refine la_fmove (i := 8) #[true, true, true, true, true, true, true, true, true, false, false, false, false] (some 36) rfl rfl (by kernel_rfl) HPB.out rfl (.tmp 44) rfl (.tuple #[.slice AG40 V.1.length cG40, .int .i64 V.2]) (by kernel_rfl) ?_
  simp only [Act.put, List.setIfInBounds_toArray, List.set_cons_zero, List.set_cons_succ]
  refine la_extract (i := 9) #[true, true, true, true, true, true, true, true, true, true, false, false, false] (some 45) rfl rfl (by kernel_rfl) HPB.out rfl (.tmp 36) 0 rfl #[.slice AG40 V.1.length cG40, .int .i64 V.2] (by kernel_rfl) (.slice AG40 V.1.length cG40) (by simp) ?_
  simp only [Act.put, List.setIfInBounds_toArray, List.set_cons_zero, List.set_cons_succ]
  refine la_extract (i := 10) #[true, true, true, true, true, true, true, true, true, true, true, false, false] (some 46) rfl rfl (by kernel_rfl) HPB.out rfl (.tmp 36) 1 rfl #[.slice AG40 V.1.length cG40, .int .i64 V.2] (by kernel_rfl) (.int .i64 V.2) (by simp) ?_
  simp only [Act.put, List.setIfInBounds_toArray, List.set_cons_zero, List.set_cons_succ]
  refine la_assign (i := 11) #[true, true, true, true, true, true, true, true, true, true, true, true, false] (some 12) rfl rfl (by kernel_rfl) rfl (.tmp 45) rfl (.slice AG40 V.1.length cG40) (by kernel_rfl) HB53.out ?_
  simp only [Act.put, List.setIfInBounds_toArray, List.set_cons_zero, List.set_cons_succ]
  refine la_assign (i := 12) #[true, true, true, true, true, true, true, true, true, true, true, true, true] (some 13) rfl rfl (by kernel_rfl) rfl (.tmp 46) rfl (.int .i64 V.2) (by kernel_rfl) HB53.out ?_
  simp only [Act.put, List.setIfInBounds_toArray, List.set_cons_zero, List.set_cons_succ]
  refine la_done (by kernel_rfl) ?_
  clear HPB
  go_upto_region 6 with (fail)
  go_upto_region 22 with (first
    | ((with_reducible refine gate_dst (N := 49) rfl ?_); refine goesL_ (some 49) rfl rfl Try.func18 (by kernel_rfl) rfl #[.slice AG40 V.1.length cG40, .slice AS20 V.1.length cS20] rfl (by simp only [List.map_toArray, List.map_cons, List.map_nil]; kernel_rfl) ?_; refine (eqO_Int H46.out H55.out hVl.out).mono ?_; rintro e w57 ⟨rfl, hb⟩; refine ⟨_, rfl, ?_⟩; have HB58 := Lib.hid (HB53.out.trans (hb.mono HB53.out.size)); clear HB53; have H59 := Lib.hid (ow_below H54.out hb); clear H54; have H60 := Lib.hid (ow_below H55.out hb); clear H55; have H61 := Lib.hid (ow_below H56.out hb); clear H56; have H62 := Lib.hid (ow_below H46.out hb); clear H46; clear hb)
    | ((with_reducible refine gate_dst (N := 58) rfl ?_); refine goesL_ (some 58) rfl rfl Try.func22 (by kernel_rfl) rfl #[.slice A3 ts.length c3] rfl (by simp only [List.map_toArray, List.map_cons, List.map_nil]; kernel_rfl) ?_; refine (toInt64S_any (w := _) ts  (Kd.C_below HCP3.out (HC.out.step HB58.out).below) hlen3 HCc3.out).mono ?_; rintro e w63 ⟨vv, rfl, hm, hb⟩; refine ⟨_, rfl, ?_⟩; obtain ⟨AX5, cX5, hv⟩ := Kd.R_slice hm; subst hv; have H64 := Lib.hid (ow_new (d := (Kd.int .i64)) rfl hm HB58.out); have HA65 := Lib.hid (apart_new hm H59.out).1; have HA66 := Lib.hid (apart_new hm H59.out).2; have HA67 := Lib.hid (apart_new hm H60.out).1; have HA68 := Lib.hid (apart_new hm H60.out).2; have HA69 := Lib.hid (apart_new hm H61.out).1; have HA70 := Lib.hid (apart_new hm H61.out).2; have HA71 := Lib.hid (apart_new hm H62.out).1; have HA72 := Lib.hid (apart_new hm H62.out).2; have HB73 := Lib.hid (HB58.out.trans (hb.mono HB58.out.size)); clear HB58; have H74 := Lib.hid (ow_below H59.out hb); clear H59; have H75 := Lib.hid (ow_below H60.out hb); clear H60; have H76 := Lib.hid (ow_below H61.out hb); clear H61; have H77 := Lib.hid (ow_below H62.out hb); clear H62; clear hm hb)
    | ((with_reducible refine gate_dst (N := 59) rfl ?_); refine goesL_ (some 59) rfl rfl Try.func18 (by kernel_rfl) rfl #[.slice AX3 ts.length cX3, .slice AX5 ts.length cX5] rfl (by simp only [List.map_toArray, List.map_cons, List.map_nil]; kernel_rfl) ?_; refine (eqO_Int H76.out H64.out hlen3).mono ?_; rintro e w78 ⟨rfl, hb⟩; refine ⟨_, rfl, ?_⟩; have HB79 := Lib.hid (HB73.out.trans (hb.mono HB73.out.size)); clear HB73; have H80 := Lib.hid (ow_below H74.out hb); clear H74; have H81 := Lib.hid (ow_below H75.out hb); clear H75; have H82 := Lib.hid (ow_below H76.out hb); clear H76; have H83 := Lib.hid (ow_below H77.out hb); clear H77; have H84 := Lib.hid (ow_below H64.out hb); clear H64; clear hb)
    | ((with_reducible refine gate_dst (N := 63) rfl ?_); refine goesL_ (some 63) rfl rfl Try.func19 (by kernel_rfl) rfl #[.slice AX3 ts.length cX3, .int .i64 1] rfl (by simp only [List.map_toArray, List.map_cons, List.map_nil]; kernel_rfl) ?_; refine (markO_Int HB79.out H82.out MX3.out).mono ?_; rintro e w85 ⟨rfl, ho, hbb, hkk⟩; refine ⟨_, rfl, ?_⟩; have HB86 := Lib.hid hbb; have H87 := Lib.hid ho; clear HB79; have H88 := Lib.hid (ow_kept H80.out HA19.out hkk); clear H80; have H89 := Lib.hid (ow_kept H81.out HA21.out hkk); clear H81; have H90 := Lib.hid (ow_kept H83.out HA52.out hkk); clear H83; have H91 := Lib.hid (ow_kept H84.out HA70.out hkk); clear H84; clear H82; clear ho hbb hkk)
    | ((with_reducible refine gate_dst (N := 69) rfl ?_); (with_reducible refine wpList_guard (by kernel_rfl) ?_); refine goesL_ (some 69) rfl rfl Try.func18 (by kernel_rfl) rfl #[.slice AG40 V.1.length cG40, .slice AS20 V.1.length cS20] rfl (by simp only [List.map_toArray, List.map_cons, List.map_nil]; kernel_rfl) ?_; refine (eqO_Int H90.out H89.out hVl.out).mono ?_; rintro e w92 ⟨rfl, hb⟩; refine ⟨_, rfl, ?_⟩; have HB93 := Lib.hid (HB86.out.trans (hb.mono HB86.out.size)); clear HB86; have H94 := Lib.hid (ow_below H88.out hb); clear H88; have H95 := Lib.hid (ow_below H89.out hb); clear H89; have H96 := Lib.hid (ow_below H87.out hb); clear H87; have H97 := Lib.hid (ow_below H90.out hb); clear H90; have H98 := Lib.hid (ow_below H91.out hb); clear H91; clear hb)
    | ((with_reducible refine gate_dst (N := 79) rfl ?_); refine goesL_ (some 79) rfl rfl Try.func19 (by kernel_rfl) rfl #[.slice AG40 V.1.length cG40, .int .i64 1] rfl (by simp only [List.map_toArray, List.map_cons, List.map_nil]; kernel_rfl) ?_; refine (markO_Int HB93.out H97.out M0.out).mono ?_; rintro e w99 ⟨rfl, ho, hbb, hkk⟩; refine ⟨_, rfl, ?_⟩; have HB100 := Lib.hid hbb; have H101 := Lib.hid ho; clear HB93; have H102 := Lib.hid (ow_kept H94.out HA47.out hkk); clear H94; have H103 := Lib.hid (ow_kept H95.out HA49.out hkk); clear H95; have H104 := Lib.hid (ow_kept H96.out HA51.out hkk); clear H96; have H105 := Lib.hid (ow_kept H98.out HA72.out hkk); clear H98; clear H97; clear ho hbb hkk)
    | ((with_reducible refine gate_dst (N := 82) rfl ?_); refine goesL_ (some 82) rfl rfl Try.func20 (by kernel_rfl) rfl #[.slice AG40 V.1.length cG40, .int .i64 1] rfl (by simp only [List.map_toArray, List.map_cons, List.map_nil]; kernel_rfl) ?_; refine (heldO_Int M0l.out.symm H101.out M0h.out).mono ?_; rintro e w106 ⟨rfl, hb⟩; refine ⟨_, rfl, ?_⟩; have HB107 := Lib.hid (HB100.out.trans (hb.mono HB100.out.size)); clear HB100; have H108 := Lib.hid (ow_below H102.out hb); clear H102; have H109 := Lib.hid (ow_below H103.out hb); clear H103; have H110 := Lib.hid (ow_below H104.out hb); clear H104; have H111 := Lib.hid (ow_below H101.out hb); clear H101; have H112 := Lib.hid (ow_below H105.out hb); clear H105; clear hb))
  refine la_start (S := fun w' => Below W.heap.size W w') (n := 14) #[false, false, false, false, false, false, false, false, false, false, false, false, false, false] (by kernel_rfl) (by kernel_rfl) (below_drewN HB107.out 1) (fun _ _ _ _ hd h => ⟨hd.symm.trans h.1, h.2⟩) (fun hPB => ?_)
  have HPB := Lib.hid hPB
  clear hPB
  have HB113 := Lib.hid (below_drewN HB107.out 1)
  clear HB107
  have H114 := Lib.hid (Kd.R_drewN H108.out 1)
  clear H108
  have H115 := Lib.hid (Kd.R_drewN H109.out 1)
  clear H109
  have H116 := Lib.hid (Kd.R_drewN H110.out 1)
  clear H110
  have H117 := Lib.hid (Kd.R_drewN H111.out 1)
  clear H111
  have H118 := Lib.hid (Kd.R_drewN H112.out 1)
  clear H112
  refine la_load (i := 0) #[true, false, false, false, false, false, false, false, false, false, false, false, false, false] (some 89) rfl rfl (by kernel_rfl) HPB.out rfl 27 (.tmp 4) rfl (w.heap.size) 0 (by kernel_rfl) F.vals _ (fun w1 h1 => (HC.out.step h1).blk (w.heap.size, F.vals, 27) (List.Mem.head _)) (by rw [List.drop_zero, List.take_length]) Try.underlying27 rfl (by rw [hF.out.len]; kernel_rfl) HB113.out ?_
  simp only [Act.put, List.setIfInBounds_toArray, List.set_cons_zero, List.set_cons_succ]
  refine la_load (i := 2) #[true, false, true, false, false, false, false, false, false, false, false, false, false, false] (some 91) rfl rfl (by kernel_rfl) HPB.out rfl 27 (.tmp 5) rfl (w.heap.size + 1) 0 (by kernel_rfl) G.vals _ (fun w1 h1 => (HC.out.step h1).blk (w.heap.size + 1, G.vals, 27) (List.Mem.tail _ (List.Mem.head _))) (by rw [List.drop_zero, List.take_length]) Try.underlying27 rfl (by rw [hG.out.len]; kernel_rfl) HB113.out ?_
  simp only [Act.put, List.setIfInBounds_toArray, List.set_cons_zero, List.set_cons_succ]
  refine la_load (i := 4) #[true, false, true, false, true, false, false, false, false, false, false, false, false, false] (some 93) rfl rfl (by kernel_rfl) HPB.out rfl 28 (.tmp 6) rfl (w.heap.size + 1 + 1) 0 (by kernel_rfl) (vrow .i8 os) _ (fun w1 h1 => (HC.out.step h1).blk (w.heap.size + 1 + 1, (vrow .i8 os), 28) (List.Mem.tail _ (List.Mem.tail _ (List.Mem.head _)))) (by rw [List.drop_zero, List.take_length]) Try.underlying28 rfl (by rw [vrow_len, hos.out.len]; kernel_rfl) HB113.out ?_
  simp only [Act.put, List.setIfInBounds_toArray, List.set_cons_zero, List.set_cons_succ]
  refine la_fmove (i := 6) #[true, false, true, false, true, false, true, false, false, false, false, false, false, false] (some 95) rfl rfl (by kernel_rfl) HPB.out rfl (.tmp 3) rfl (.slice A3 ts.length c3) (by kernel_rfl) ?_
  simp only [Act.put, List.setIfInBounds_toArray, List.set_cons_zero, List.set_cons_succ]
  refine la_call (i := 1) #[true, true, true, false, true, false, true, false, false, false, false, false, false, false] (some 90) rfl rfl (by kernel_rfl) rfl Try.func10 (by kernel_rfl) rfl #[.agg F.vals.toArray] rfl (by simp only [List.map_toArray, List.map_cons, List.map_nil]; kernel_rfl) ?_
  refine (toField_any F hF.out _).mono ?_
  rintro e w119 ⟨rfl, hb⟩
  have HB120 := Lib.hid (HB113.out.trans (hb.mono HB113.out.size))
  clear HB113
  have H121 := Lib.hid (ow_below H114.out hb)
  clear H114
  have H122 := Lib.hid (ow_below H115.out hb)
  clear H115
  have H123 := Lib.hid (ow_below H116.out hb)
  clear H116
  have H124 := Lib.hid (ow_below H117.out hb)
  clear H117
  have H125 := Lib.hid (ow_below H118.out hb)
  clear H118
  clear hb
  refine ⟨_, rfl, HB120.out, ?_⟩
  simp only [Act.put, List.setIfInBounds_toArray, List.set_cons_zero, List.set_cons_succ]
  refine la_call (i := 3) #[true, true, true, true, true, false, true, false, false, false, false, false, false, false] (some 92) rfl rfl (by kernel_rfl) rfl Try.func10 (by kernel_rfl) rfl #[.agg G.vals.toArray] rfl (by simp only [List.map_toArray, List.map_cons, List.map_nil]; kernel_rfl) ?_
  refine (toField_any G hG.out _).mono ?_
  rintro e w126 ⟨rfl, hb⟩
  have HB127 := Lib.hid (HB120.out.trans (hb.mono HB120.out.size))
  clear HB120
  have H128 := Lib.hid (ow_below H121.out hb)
  clear H121
  have H129 := Lib.hid (ow_below H122.out hb)
  clear H122
  have H130 := Lib.hid (ow_below H123.out hb)
  clear H123
  have H131 := Lib.hid (ow_below H124.out hb)
  clear H124
  have H132 := Lib.hid (ow_below H125.out hb)
  clear H125
  clear hb
  refine ⟨_, rfl, HB127.out, ?_⟩
  simp only [Act.put, List.setIfInBounds_toArray, List.set_cons_zero, List.set_cons_succ]
  refine la_call (i := 5) #[true, true, true, true, true, true, true, false, false, false, false, false, false, false] (some 94) rfl rfl (by kernel_rfl) rfl Try.func11 (by kernel_rfl) rfl #[.agg (vrow .i8 os).toArray] rfl (by simp only [List.map_toArray, List.map_cons, List.map_nil]; kernel_rfl) ?_
  refine (toOwners_any os hos.out.len _).mono ?_
  rintro e w133 ⟨rfl, hb⟩
  have HB134 := Lib.hid (HB127.out.trans (hb.mono HB127.out.size))
  clear HB127
  have H135 := Lib.hid (ow_below H128.out hb)
  clear H128
  have H136 := Lib.hid (ow_below H129.out hb)
  clear H129
  have H137 := Lib.hid (ow_below H130.out hb)
  clear H130
  have H138 := Lib.hid (ow_below H131.out hb)
  clear H131
  have H139 := Lib.hid (ow_below H132.out hb)
  clear H132
  clear hb
  refine ⟨_, rfl, HB134.out, ?_⟩
  simp only [Act.put, List.setIfInBounds_toArray, List.set_cons_zero, List.set_cons_succ]
  refine la_call (i := 7) #[true, true, true, true, true, true, true, true, false, false, false, false, false, false] (some 96) rfl rfl (by kernel_rfl) rfl Try.func22 (by kernel_rfl) rfl #[.slice A3 ts.length c3] rfl (by simp only [List.map_toArray, List.map_cons, List.map_nil]; kernel_rfl) ?_
  refine (toInt64S_any (w := _) ts  (Kd.C_below HCP3.out (HC.out.step HB134.out).below) hlen3 HCc3.out).mono ?_
  rintro e w140 ⟨vv, rfl, hm, hb⟩
  obtain ⟨AX6, cX6, hv⟩ := Kd.R_slice hm
  subst hv
  have H141 := Lib.hid (ow_new (d := (Kd.int .i64)) rfl hm HB134.out)
  have HA142 := Lib.hid (apart_new hm H135.out).1
  have HA143 := Lib.hid (apart_new hm H135.out).2
  have HA144 := Lib.hid (apart_new hm H136.out).1
  have HA145 := Lib.hid (apart_new hm H136.out).2
  have HA146 := Lib.hid (apart_new hm H137.out).1
  have HA147 := Lib.hid (apart_new hm H137.out).2
  have HA148 := Lib.hid (apart_new hm H138.out).1
  have HA149 := Lib.hid (apart_new hm H138.out).2
  have HA150 := Lib.hid (apart_new hm H139.out).1
  have HA151 := Lib.hid (apart_new hm H139.out).2
  have HB152 := Lib.hid (HB134.out.trans (hb.mono HB134.out.size))
  clear HB134
  have H153 := Lib.hid (ow_below H135.out hb)
  clear H135
  have H154 := Lib.hid (ow_below H136.out hb)
  clear H136
  have H155 := Lib.hid (ow_below H137.out hb)
  clear H137
  have H156 := Lib.hid (ow_below H138.out hb)
  clear H138
  have H157 := Lib.hid (ow_below H139.out hb)
  clear H139
  clear hm hb
  refine ⟨_, rfl, HB152.out, ?_⟩
  simp only [Act.put, List.setIfInBounds_toArray, List.set_cons_zero, List.set_cons_succ]
  refine la_call (i := 8) #[true, true, true, true, true, true, true, true, true, false, false, false, false, false] (some 97) rfl rfl (by kernel_rfl) rfl Try.func25 (by kernel_rfl) rfl #[.agg F.vals.toArray, .agg G.vals.toArray, .agg (vrow .i8 os).toArray, .slice AX6 ts.length cX6] rfl (by simp only [List.map_toArray, List.map_cons, List.map_nil]; kernel_rfl) ?_
  refine (HIm.out _ _ _ (ow_C H141.out) (ow_cap H141.out)).mono ?_
  rintro e w158 ⟨vG70, rfl, hm0, hb⟩
  obtain ⟨AG70, cG70, hv⟩ := Kd.R_slice hm0
  subst hv
  have H159 := Lib.hid (ow_new (d := (Kd.int .i64)) rfl hm0 HB152.out)
  have HA160 := Lib.hid (apart_new hm0 H153.out).1
  have HA161 := Lib.hid (apart_new hm0 H153.out).2
  have HA162 := Lib.hid (apart_new hm0 H154.out).1
  have HA163 := Lib.hid (apart_new hm0 H154.out).2
  have HA164 := Lib.hid (apart_new hm0 H155.out).1
  have HA165 := Lib.hid (apart_new hm0 H155.out).2
  have HA166 := Lib.hid (apart_new hm0 H156.out).1
  have HA167 := Lib.hid (apart_new hm0 H156.out).2
  have HA168 := Lib.hid (apart_new hm0 H157.out).1
  have HA169 := Lib.hid (apart_new hm0 H157.out).2
  have HA170 := Lib.hid (apart_new hm0 H141.out).1
  have HA171 := Lib.hid (apart_new hm0 H141.out).2
  have HB172 := Lib.hid (HB152.out.trans (hb.mono HB152.out.size))
  clear HB152
  have H173 := Lib.hid (ow_below H153.out hb)
  clear H153
  have H174 := Lib.hid (ow_below H154.out hb)
  clear H154
  have H175 := Lib.hid (ow_below H155.out hb)
  clear H155
  have H176 := Lib.hid (ow_below H156.out hb)
  clear H156
  have H177 := Lib.hid (ow_below H157.out hb)
  clear H157
  have H178 := Lib.hid (ow_below H141.out hb)
  clear H141
  clear hm0 hb
  refine ⟨_, rfl, HB172.out, ?_⟩
  simp only [Act.put, List.setIfInBounds_toArray, List.set_cons_zero, List.set_cons_succ]
  refine la_fmove (i := 9) #[true, true, true, true, true, true, true, true, true, true, false, false, false, false] (some 88) rfl rfl (by kernel_rfl) HPB.out rfl (.tmp 97) rfl (.tuple #[.slice AG70 V.1.length cG70, .int .i64 V.2]) (by kernel_rfl) ?_
  simp only [Act.put, List.setIfInBounds_toArray, List.set_cons_zero, List.set_cons_succ]
  refine la_extract (i := 10) #[true, true, true, true, true, true, true, true, true, true, true, false, false, false] (some 98) rfl rfl (by kernel_rfl) HPB.out rfl (.tmp 88) 0 rfl #[.slice AG70 V.1.length cG70, .int .i64 V.2] (by kernel_rfl) (.slice AG70 V.1.length cG70) (by simp) ?_
  simp only [Act.put, List.setIfInBounds_toArray, List.set_cons_zero, List.set_cons_succ]
  refine la_extract (i := 11) #[true, true, true, true, true, true, true, true, true, true, true, true, false, false] (some 99) rfl rfl (by kernel_rfl) HPB.out rfl (.tmp 88) 1 rfl #[.slice AG70 V.1.length cG70, .int .i64 V.2] (by kernel_rfl) (.int .i64 V.2) (by simp) ?_
  simp only [Act.put, List.setIfInBounds_toArray, List.set_cons_zero, List.set_cons_succ]
  refine la_assign (i := 12) #[true, true, true, true, true, true, true, true, true, true, true, true, true, false] (some 17) rfl rfl (by kernel_rfl) rfl (.tmp 98) rfl (.slice AG70 V.1.length cG70) (by kernel_rfl) HB172.out ?_
  simp only [Act.put, List.setIfInBounds_toArray, List.set_cons_zero, List.set_cons_succ]
  refine la_assign (i := 13) #[true, true, true, true, true, true, true, true, true, true, true, true, true, true] (some 18) rfl rfl (by kernel_rfl) rfl (.tmp 99) rfl (.int .i64 V.2) (by kernel_rfl) HB172.out ?_
  simp only [Act.put, List.setIfInBounds_toArray, List.set_cons_zero, List.set_cons_succ]
  refine la_done (by kernel_rfl) ?_
  clear HPB
  go_upto_region 23 with (fail)
  go_wp2_with (first
    | ((with_reducible refine gate_dst (N := 102) rfl ?_); refine goesL_ (some 102) rfl rfl Try.func18 (by kernel_rfl) rfl #[.slice AG70 V.1.length cG70, .slice AS20 V.1.length cS20] rfl (by simp only [List.map_toArray, List.map_cons, List.map_nil]; kernel_rfl) ?_; refine (eqO_Int H159.out H174.out hVl.out).mono ?_; rintro e w179 ⟨rfl, hb⟩; refine ⟨_, rfl, ?_⟩; have HB180 := Lib.hid (HB172.out.trans (hb.mono HB172.out.size)); clear HB172; have H181 := Lib.hid (ow_below H173.out hb); clear H173; have H182 := Lib.hid (ow_below H174.out hb); clear H174; have H183 := Lib.hid (ow_below H175.out hb); clear H175; have H184 := Lib.hid (ow_below H176.out hb); clear H176; have H185 := Lib.hid (ow_below H177.out hb); clear H177; have H186 := Lib.hid (ow_below H178.out hb); clear H178; have H187 := Lib.hid (ow_below H159.out hb); clear H159; clear hb)
    | ((with_reducible refine gate_dst (N := 111) rfl ?_); refine goesL_ (some 111) rfl rfl Try.func20 (by kernel_rfl) rfl #[.slice AG40 V.1.length cG40, .int .i64 1] rfl (by simp only [List.map_toArray, List.map_cons, List.map_nil]; kernel_rfl) ?_; refine (heldO_Int M0l.out.symm H184.out M0h.out).mono ?_; rintro e w188 ⟨rfl, hb⟩; refine ⟨_, rfl, ?_⟩; have HB189 := Lib.hid (HB180.out.trans (hb.mono HB180.out.size)); clear HB180; have H190 := Lib.hid (ow_below H181.out hb); clear H181; have H191 := Lib.hid (ow_below H182.out hb); clear H182; have H192 := Lib.hid (ow_below H183.out hb); clear H183; have H193 := Lib.hid (ow_below H184.out hb); clear H184; have H194 := Lib.hid (ow_below H185.out hb); clear H185; have H195 := Lib.hid (ow_below H186.out hb); clear H186; have H196 := Lib.hid (ow_below H187.out hb); clear H187; clear hb))
  go_ret
  exact ⟨rfl, (HC.out.step HB189.out).below⟩

end Go.Proofs.Ytpkapkgfmibooaa.LFairClaims
