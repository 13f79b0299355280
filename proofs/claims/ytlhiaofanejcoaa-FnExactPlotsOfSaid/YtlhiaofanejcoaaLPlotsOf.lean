/- The law FnExactPlotsOf, walked: the program and the reference answer the same. No condition. -/
import Derived.Test.YtlhiaofanejcoaaA1
import Derived.Test.YtlhiaofanejcoaaO
import Derived.Test.YtlhiaofanejcoaaD5
import Derived.Test.YtlhiaofanejcoaaMkPlot
namespace Go.Proofs.Ytlhiaofanejcoaa.LPlotsOf
open Go.RowKit Go.Proofs.YtlhiaofanejcoaaW.PrintWords Go.Proofs.YtlhiaofanejcoaaW.PrintLast Go.Proofs.Ytlhiaofanejcoaa.PAll
set_option linter.unusedSimpArgs false
set_option linter.unusedVariables false

set_option maxRecDepth 100000 in
set_option maxHeartbeats 8000000 in
theorem walk (w : World) (cs0 : List Value) (i0 : R.Ints fldKinds cs0) (r : Int) (wr : (Lit.int .i64 r).wf = true) (k : Int) (wk : (Lit.int .i64 k).wf = true) (l : Int) (wl : (Lit.int .i64 l).wf = true) :
    Calls Try.prog 13 #[.agg cs0.toArray, .int .i64 r, .int .i64 k, .int .i64 l] w fun e w' => e = .returned (.bool true) ∧ Below w.heap.size w w' := by
  obtain ⟨F, hF', rfl⟩ := fld_of_ints i0
  have hF := Lib.hid hF'
  clear i0 hF'
  obtain ⟨V, hV⟩ : ∃ V, V = plotRes F r k l := ⟨_, rfl⟩
  have HSp' := fun w1 => sPlots_any F hF.out r k l w1
  have HIm' := fun w1 => iPlots_any F hF.out r k l w1
  have hVl' := plotRes_len F r k l
  rw [← hV] at HSp' HIm' hVl'
  clear hV
  have HSp := Lib.hid HSp'
  clear HSp'
  have HIm := Lib.hid HIm'
  clear HIm'
  have hVl := Lib.hid hVl'
  clear hVl'
  obtain ⟨k0, m0, y0, g1, g2, g3, gm0⟩ := marks_Plot V.1 hVl.out
  have M0 := Lib.hid g1
  have M0l := Lib.hid g2
  have M0h := Lib.hid g3
  clear g1 g2 g3
  have hmm0 : (m0 != m0) = false := by simp
  have hV0 : (V.2 != V.2) = false := by simp
  go_enter Try.func13, Try.ntmps13
  go_upto_region 1 with (fail)
  obtain ⟨W, hW⟩ : ∃ W, W = w.alloc (.cells F.vals.toArray 27) := ⟨_, rfl⟩
  have HC := Lib.hid (boxed1 w F.vals 27)
  rw [← hW] at HC ⊢
  clear hW
  have HB0 := Lib.hid (Below.refl W.heap.size W)
  go_wp2_with (first
    | ((with_reducible refine gate_dst (N := 18) rfl ?_); refine wpList_load_blk rfl 27 (.tmp 4) rfl (w.heap.size) 0 (by kernel_rfl) F.vals _ ((HC.out.step HB0.out).blk (w.heap.size, F.vals, 27) (List.Mem.head _)) (by rw [List.drop_zero, List.take_length]) Try.underlying27 rfl (by rw [hF.out.len]; kernel_rfl) ?_)
    | ((with_reducible refine gate_dst (N := 19) rfl ?_); refine goesL_ (some 19) rfl rfl Try.func16 (by kernel_rfl) rfl #[.agg F.vals.toArray] rfl (by simp only [List.map_toArray, List.map_cons, List.map_nil]; kernel_rfl) ?_; refine (toField_any F hF.out _).mono ?_; rintro e w1 ⟨rfl, hb⟩; refine ⟨_, rfl, ?_⟩; have HB2 := Lib.hid (HB0.out.trans (hb.mono HB0.out.size)); clear HB0; clear hb)
    | ((with_reducible refine gate_dst (N := 23) rfl ?_); refine goesL_ (some 23) rfl rfl Try.func48 (by kernel_rfl) rfl #[.agg F.vals.toArray, .int .i64 r, .int .i64 k, .int .i64 l] rfl (by simp only [List.map_toArray, List.map_cons, List.map_nil]; kernel_rfl) ?_; refine (HSp.out _).mono ?_; rintro e w3 ⟨vS10, rfl, hm0, hb⟩; refine ⟨_, rfl, ?_⟩; obtain ⟨AS10, cS10, hv⟩ := Kd.R_slice hm0; subst hv; have H4 := Lib.hid (ow_new (d := PAll.k112) rfl hm0 HB2.out); have HB5 := Lib.hid (HB2.out.trans (hb.mono HB2.out.size)); clear HB2; clear hm0 hb)
    | ((with_reducible refine gate_dst (N := 27) rfl ?_); refine wpList_load_blk rfl 27 (.tmp 4) rfl (w.heap.size) 0 (by kernel_rfl) F.vals _ ((HC.out.step HB5.out).blk (w.heap.size, F.vals, 27) (List.Mem.head _)) (by rw [List.drop_zero, List.take_length]) Try.underlying27 rfl (by rw [hF.out.len]; kernel_rfl) ?_)
    | ((with_reducible refine gate_dst (N := 28) rfl ?_); refine goesL_ (some 28) rfl rfl Try.func16 (by kernel_rfl) rfl #[.agg F.vals.toArray] rfl (by simp only [List.map_toArray, List.map_cons, List.map_nil]; kernel_rfl) ?_; refine (toField_any F hF.out _).mono ?_; rintro e w6 ⟨rfl, hb⟩; refine ⟨_, rfl, ?_⟩; have HB7 := Lib.hid (HB5.out.trans (hb.mono HB5.out.size)); clear HB5; have H8 := Lib.hid (ow_below H4.out hb); clear H4; clear hb)
    | ((with_reducible refine gate_dst (N := 32) rfl ?_); refine goesL_ (some 32) rfl rfl Try.func49 (by kernel_rfl) rfl #[.agg F.vals.toArray, .int .i64 r, .int .i64 k, .int .i64 l] rfl (by simp only [List.map_toArray, List.map_cons, List.map_nil]; kernel_rfl) ?_; refine (HIm.out _).mono ?_; rintro e w9 ⟨vG20, rfl, hm0, hb⟩; refine ⟨_, rfl, ?_⟩; obtain ⟨AG20, cG20, hv⟩ := Kd.R_slice hm0; subst hv; have H10 := Lib.hid (ow_new (d := PAll.k112) rfl hm0 HB7.out); have HA11 := Lib.hid (apart_new hm0 H8.out).1; have HA12 := Lib.hid (apart_new hm0 H8.out).2; have HB13 := Lib.hid (HB7.out.trans (hb.mono HB7.out.size)); clear HB7; have H14 := Lib.hid (ow_below H8.out hb); clear H8; clear hm0 hb)
    | ((with_reducible refine gate_dst (N := 37) rfl ?_); refine goesL_ (some 37) rfl rfl Try.func50 (by kernel_rfl) rfl #[.slice AG20 V.1.length cG20, .slice AS10 V.1.length cS10] rfl (by simp only [List.map_toArray, List.map_cons, List.map_nil]; kernel_rfl) ?_; refine (eqO_Plot H10.out H14.out hVl.out).mono ?_; rintro e w15 ⟨rfl, hb⟩; refine ⟨_, rfl, ?_⟩; have HB16 := Lib.hid (HB13.out.trans (hb.mono HB13.out.size)); clear HB13; have H17 := Lib.hid (ow_below H14.out hb); clear H14; have H18 := Lib.hid (ow_below H10.out hb); clear H10; clear hb)
    | ((with_reducible refine gate_dst (N := 46) rfl ?_); refine goesL_ (some 46) rfl rfl Try.func51 (by kernel_rfl) rfl #[.slice AG20 V.1.length cG20, .int .i64 1] rfl (by simp only [List.map_toArray, List.map_cons, List.map_nil]; kernel_rfl) ?_; refine (markO_Plot HB16.out H18.out M0.out).mono ?_; rintro e w19 ⟨rfl, ho, hbb, hkk⟩; refine ⟨_, rfl, ?_⟩; have HB20 := Lib.hid hbb; have H21 := Lib.hid ho; clear HB16; have H22 := Lib.hid (ow_kept H17.out HA11.out hkk); clear H17; clear H18; clear ho hbb hkk)
    | ((with_reducible refine gate_dst (N := 49) rfl ?_); refine goesL_ (some 49) rfl rfl Try.func52 (by kernel_rfl) rfl #[.slice AG20 V.1.length cG20, .int .i64 1] rfl (by simp only [List.map_toArray, List.map_cons, List.map_nil]; kernel_rfl) ?_; refine (heldO_Plot M0l.out.symm H21.out M0h.out).mono ?_; rintro e w23 ⟨rfl, hb⟩; refine ⟨_, rfl, ?_⟩; have HB24 := Lib.hid (HB20.out.trans (hb.mono HB20.out.size)); clear HB20; have H25 := Lib.hid (ow_below H22.out hb); clear H22; have H26 := Lib.hid (ow_below H21.out hb); clear H21; clear hb)
    | ((with_reducible refine gate_dst (N := 56) rfl ?_); refine wpList_load_blk rfl 27 (.tmp 4) rfl (w.heap.size) 0 (by kernel_rfl) F.vals _ ((HC.out.step HB24.out).blk (w.heap.size, F.vals, 27) (List.Mem.head _)) (by rw [List.drop_zero, List.take_length]) Try.underlying27 rfl (by rw [hF.out.len]; kernel_rfl) ?_)
    | ((with_reducible refine gate_dst (N := 57) rfl ?_); refine goesL_ (some 57) rfl rfl Try.func16 (by kernel_rfl) rfl #[.agg F.vals.toArray] rfl (by simp only [List.map_toArray, List.map_cons, List.map_nil]; kernel_rfl) ?_; refine (toField_any F hF.out _).mono ?_; rintro e w27 ⟨rfl, hb⟩; refine ⟨_, rfl, ?_⟩; have HB28 := Lib.hid (HB24.out.trans (hb.mono HB24.out.size)); clear HB24; have H29 := Lib.hid (ow_below H25.out hb); clear H25; have H30 := Lib.hid (ow_below H26.out hb); clear H26; clear hb)
    | ((with_reducible refine gate_dst (N := 61) rfl ?_); refine goesL_ (some 61) rfl rfl Try.func49 (by kernel_rfl) rfl #[.agg F.vals.toArray, .int .i64 r, .int .i64 k, .int .i64 l] rfl (by simp only [List.map_toArray, List.map_cons, List.map_nil]; kernel_rfl) ?_; refine (HIm.out _).mono ?_; rintro e w31 ⟨vG30, rfl, hm0, hb⟩; refine ⟨_, rfl, ?_⟩; obtain ⟨AG30, cG30, hv⟩ := Kd.R_slice hm0; subst hv; have H32 := Lib.hid (ow_new (d := PAll.k112) rfl hm0 HB28.out); have HA33 := Lib.hid (apart_new hm0 H29.out).1; have HA34 := Lib.hid (apart_new hm0 H29.out).2; have HA35 := Lib.hid (apart_new hm0 H30.out).1; have HA36 := Lib.hid (apart_new hm0 H30.out).2; have HB37 := Lib.hid (HB28.out.trans (hb.mono HB28.out.size)); clear HB28; have H38 := Lib.hid (ow_below H29.out hb); clear H29; have H39 := Lib.hid (ow_below H30.out hb); clear H30; clear hm0 hb)
    | ((with_reducible refine gate_dst (N := 66) rfl ?_); refine goesL_ (some 66) rfl rfl Try.func50 (by kernel_rfl) rfl #[.slice AG30 V.1.length cG30, .slice AS10 V.1.length cS10] rfl (by simp only [List.map_toArray, List.map_cons, List.map_nil]; kernel_rfl) ?_; refine (eqO_Plot H32.out H38.out hVl.out).mono ?_; rintro e w40 ⟨rfl, hb⟩; refine ⟨_, rfl, ?_⟩; have HB41 := Lib.hid (HB37.out.trans (hb.mono HB37.out.size)); clear HB37; have H42 := Lib.hid (ow_below H38.out hb); clear H38; have H43 := Lib.hid (ow_below H39.out hb); clear H39; have H44 := Lib.hid (ow_below H32.out hb); clear H32; clear hb)
    | ((with_reducible refine gate_dst (N := 75) rfl ?_); refine goesL_ (some 75) rfl rfl Try.func52 (by kernel_rfl) rfl #[.slice AG20 V.1.length cG20, .int .i64 1] rfl (by simp only [List.map_toArray, List.map_cons, List.map_nil]; kernel_rfl) ?_; refine (heldO_Plot M0l.out.symm H43.out M0h.out).mono ?_; rintro e w45 ⟨rfl, hb⟩; refine ⟨_, rfl, ?_⟩; have HB46 := Lib.hid (HB41.out.trans (hb.mono HB41.out.size)); clear HB41; have H47 := Lib.hid (ow_below H42.out hb); clear H42; have H48 := Lib.hid (ow_below H43.out hb); clear H43; have H49 := Lib.hid (ow_below H44.out hb); clear H44; clear hb))
  go_ret
  exact ⟨rfl, (HC.out.step HB46.out).below⟩

end Go.Proofs.Ytlhiaofanejcoaa.LPlotsOf
