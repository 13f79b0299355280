/- The law FnExactWayBetween, walked: the program and the reference answer the same. No condition. -/
import Derived.Test.YtinpmhmagcmamaaGB
import Derived.Test.YtinpmhmagcmamaaGC
import Derived.Test.YtinpmhmagcmamaaWJ
import Derived.Test.YtinpmhmagcmamaaMkInt
namespace Go.Proofs.Ytinpmhmagcmamaa.LWayBetween
open Go.RowKit Go.Proofs.YtinpmhmagcmamaaW.PrintWords Go.Proofs.YtinpmhmagcmamaaW.PrintLast Go.Proofs.Ytinpmhmagcmamaa.PAll
set_option linter.unusedSimpArgs false
set_option linter.unusedVariables false

set_option maxRecDepth 100000 in
set_option maxHeartbeats 8000000 in
theorem walk (w : World) (cs0 : List Value) (i0 : R.Ints fldKinds cs0) (a : Int) (wa : (Lit.int .i64 a).wf = true) (b : Int) (wb : (Lit.int .i64 b).wf = true) :
    Calls Try.prog 3 #[.agg cs0.toArray, .int .i64 a, .int .i64 b] w fun e w' => e = .returned (.bool true) ∧ Below w.heap.size w w' := by
  obtain ⟨F, hF', rfl⟩ := fld_of_ints i0
  have hF := Lib.hid hF'
  clear i0 hF'
  obtain ⟨V, hV⟩ : ∃ V, V = wyRes F a b := ⟨_, rfl⟩
  have HSp' := fun w1 => sWay_any F hF.out a b w1
  have HIm' := fun w1 => iWay_any F hF.out a b w1
  have hVl' := wyRes_len F a b
  rw [← hV] at HSp' HIm' hVl'
  clear hV
  have HSp := Lib.hid HSp'
  clear HSp'
  have HIm := Lib.hid HIm'
  clear HIm'
  have hVl := Lib.hid hVl'
  clear hVl'
  obtain ⟨k0, m0, y0, g1, g2, g3, gm0⟩ := marks_Int V.1 hVl.out
  have gn0 : 1 ≤ m0 := by omega
  clear gm0
  have M0 := Lib.hid g1
  have M0l := Lib.hid g2
  have M0h := Lib.hid g3
  clear g1 g2 g3
  have hmm0 : (m0 != m0) = false := by simp
  have hV0 : (V.2 != V.2) = false := by simp
  go_enter Try.func3, Try.ntmps3
  go_upto_region 1 with (fail)
  obtain ⟨W, hW⟩ : ∃ W, W = w.alloc (.cells F.vals.toArray 27) := ⟨_, rfl⟩
  have HC := Lib.hid (boxed1 w F.vals 27)
  rw [← hW] at HC ⊢
  clear hW
  have HB0 := Lib.hid (Below.refl W.heap.size W)
  go_wp2_with (first
    | ((with_reducible refine gate_dst (N := 16) rfl ?_); refine wpList_load_blk rfl 27 (.tmp 3) rfl (w.heap.size) 0 (by kernel_rfl) F.vals _ ((HC.out.step HB0.out).blk (w.heap.size, F.vals, 27) (List.Mem.head _)) (by rw [List.drop_zero, List.take_length]) Try.underlying27 rfl (by rw [hF.out.len]; kernel_rfl) ?_)
    | ((with_reducible refine gate_dst (N := 17) rfl ?_); refine goesL_ (some 17) rfl rfl Try.func6 (by kernel_rfl) rfl #[.agg F.vals.toArray] rfl (by simp only [List.map_toArray, List.map_cons, List.map_nil]; kernel_rfl) ?_; refine (toField_any F hF.out _).mono ?_; rintro e w1 ⟨rfl, hb⟩; refine ⟨_, rfl, ?_⟩; have HB2 := Lib.hid (HB0.out.trans (hb.mono HB0.out.size)); clear HB0; clear hb)
    | ((with_reducible refine gate_dst (N := 20) rfl ?_); refine goesL_ (some 20) rfl rfl Try.func5 (by kernel_rfl) rfl #[.agg F.vals.toArray, .int .i64 a, .int .i64 b] rfl (by simp only [List.map_toArray, List.map_cons, List.map_nil]; kernel_rfl) ?_; refine (HSp.out _).mono ?_; rintro e w3 ⟨vS10, rfl, hm0, hb⟩; refine ⟨_, rfl, ?_⟩; obtain ⟨AS10, cS10, hv⟩ := Kd.R_slice hm0; subst hv; have H4 := Lib.hid (ow_new (d := (Kd.int .i64)) rfl hm0 HB2.out); have HB5 := Lib.hid (HB2.out.trans (hb.mono HB2.out.size)); clear HB2; clear hm0 hb)
    | ((with_reducible refine gate_dst (N := 24) rfl ?_); refine wpList_load_blk rfl 27 (.tmp 3) rfl (w.heap.size) 0 (by kernel_rfl) F.vals _ ((HC.out.step HB5.out).blk (w.heap.size, F.vals, 27) (List.Mem.head _)) (by rw [List.drop_zero, List.take_length]) Try.underlying27 rfl (by rw [hF.out.len]; kernel_rfl) ?_)
    | ((with_reducible refine gate_dst (N := 25) rfl ?_); refine goesL_ (some 25) rfl rfl Try.func6 (by kernel_rfl) rfl #[.agg F.vals.toArray] rfl (by simp only [List.map_toArray, List.map_cons, List.map_nil]; kernel_rfl) ?_; refine (toField_any F hF.out _).mono ?_; rintro e w6 ⟨rfl, hb⟩; refine ⟨_, rfl, ?_⟩; have HB7 := Lib.hid (HB5.out.trans (hb.mono HB5.out.size)); clear HB5; have H8 := Lib.hid (ow_below H4.out hb); clear H4; clear hb)
    | ((with_reducible refine gate_dst (N := 28) rfl ?_); refine goesL_ (some 28) rfl rfl Try.func7 (by kernel_rfl) rfl #[.agg F.vals.toArray, .int .i64 a, .int .i64 b] rfl (by simp only [List.map_toArray, List.map_cons, List.map_nil]; kernel_rfl) ?_; refine (HIm.out _).mono ?_; rintro e w9 ⟨vG20, rfl, hm0, hb⟩; refine ⟨_, rfl, ?_⟩; obtain ⟨AG20, cG20, hv⟩ := Kd.R_slice hm0; subst hv; have H10 := Lib.hid (ow_new (d := (Kd.int .i64)) rfl hm0 HB7.out); have HA11 := Lib.hid (apart_new hm0 H8.out).1; have HA12 := Lib.hid (apart_new hm0 H8.out).2; have HB13 := Lib.hid (HB7.out.trans (hb.mono HB7.out.size)); clear HB7; have H14 := Lib.hid (ow_below H8.out hb); clear H8; clear hm0 hb)
    | ((with_reducible refine gate_dst (N := 33) rfl ?_); refine goesL_ (some 33) rfl rfl Try.func8 (by kernel_rfl) rfl #[.slice AG20 V.1.length cG20, .slice AS10 V.1.length cS10] rfl (by simp only [List.map_toArray, List.map_cons, List.map_nil]; kernel_rfl) ?_; refine (eqO_Int H10.out H14.out hVl.out).mono ?_; rintro e w15 ⟨rfl, hb⟩; refine ⟨_, rfl, ?_⟩; have HB16 := Lib.hid (HB13.out.trans (hb.mono HB13.out.size)); clear HB13; have H17 := Lib.hid (ow_below H14.out hb); clear H14; have H18 := Lib.hid (ow_below H10.out hb); clear H10; clear hb)
    | ((with_reducible refine gate_dst (N := 42) rfl ?_); refine goesL_ (some 42) rfl rfl Try.func9 (by kernel_rfl) rfl #[.slice AG20 V.1.length cG20, .int .i64 1] rfl (by simp only [List.map_toArray, List.map_cons, List.map_nil]; kernel_rfl) ?_; refine (markO_Int HB16.out H18.out M0.out).mono ?_; rintro e w19 ⟨rfl, ho, hbb, hkk⟩; refine ⟨_, rfl, ?_⟩; have HB20 := Lib.hid hbb; have H21 := Lib.hid ho; clear HB16; have H22 := Lib.hid (ow_kept H17.out HA11.out hkk); clear H17; clear H18; clear ho hbb hkk)
    | ((with_reducible refine gate_dst (N := 45) rfl ?_); refine goesL_ (some 45) rfl rfl Try.func10 (by kernel_rfl) rfl #[.slice AG20 V.1.length cG20, .int .i64 1] rfl (by simp only [List.map_toArray, List.map_cons, List.map_nil]; kernel_rfl) ?_; refine (heldO_Int M0l.out.symm H21.out M0h.out).mono ?_; rintro e w23 ⟨rfl, hb⟩; refine ⟨_, rfl, ?_⟩; have HB24 := Lib.hid (HB20.out.trans (hb.mono HB20.out.size)); clear HB20; have H25 := Lib.hid (ow_below H22.out hb); clear H22; have H26 := Lib.hid (ow_below H21.out hb); clear H21; clear hb)
    | ((with_reducible refine gate_dst (N := 52) rfl ?_); refine wpList_load_blk rfl 27 (.tmp 3) rfl (w.heap.size) 0 (by kernel_rfl) F.vals _ ((HC.out.step HB24.out).blk (w.heap.size, F.vals, 27) (List.Mem.head _)) (by rw [List.drop_zero, List.take_length]) Try.underlying27 rfl (by rw [hF.out.len]; kernel_rfl) ?_)
    | ((with_reducible refine gate_dst (N := 53) rfl ?_); refine goesL_ (some 53) rfl rfl Try.func6 (by kernel_rfl) rfl #[.agg F.vals.toArray] rfl (by simp only [List.map_toArray, List.map_cons, List.map_nil]; kernel_rfl) ?_; refine (toField_any F hF.out _).mono ?_; rintro e w27 ⟨rfl, hb⟩; refine ⟨_, rfl, ?_⟩; have HB28 := Lib.hid (HB24.out.trans (hb.mono HB24.out.size)); clear HB24; have H29 := Lib.hid (ow_below H25.out hb); clear H25; have H30 := Lib.hid (ow_below H26.out hb); clear H26; clear hb)
    | ((with_reducible refine gate_dst (N := 56) rfl ?_); refine goesL_ (some 56) rfl rfl Try.func7 (by kernel_rfl) rfl #[.agg F.vals.toArray, .int .i64 a, .int .i64 b] rfl (by simp only [List.map_toArray, List.map_cons, List.map_nil]; kernel_rfl) ?_; refine (HIm.out _).mono ?_; rintro e w31 ⟨vG30, rfl, hm0, hb⟩; refine ⟨_, rfl, ?_⟩; obtain ⟨AG30, cG30, hv⟩ := Kd.R_slice hm0; subst hv; have H32 := Lib.hid (ow_new (d := (Kd.int .i64)) rfl hm0 HB28.out); have HA33 := Lib.hid (apart_new hm0 H29.out).1; have HA34 := Lib.hid (apart_new hm0 H29.out).2; have HA35 := Lib.hid (apart_new hm0 H30.out).1; have HA36 := Lib.hid (apart_new hm0 H30.out).2; have HB37 := Lib.hid (HB28.out.trans (hb.mono HB28.out.size)); clear HB28; have H38 := Lib.hid (ow_below H29.out hb); clear H29; have H39 := Lib.hid (ow_below H30.out hb); clear H30; clear hm0 hb)
    | ((with_reducible refine gate_dst (N := 61) rfl ?_); refine goesL_ (some 61) rfl rfl Try.func8 (by kernel_rfl) rfl #[.slice AG30 V.1.length cG30, .slice AS10 V.1.length cS10] rfl (by simp only [List.map_toArray, List.map_cons, List.map_nil]; kernel_rfl) ?_; refine (eqO_Int H32.out H38.out hVl.out).mono ?_; rintro e w40 ⟨rfl, hb⟩; refine ⟨_, rfl, ?_⟩; have HB41 := Lib.hid (HB37.out.trans (hb.mono HB37.out.size)); clear HB37; have H42 := Lib.hid (ow_below H38.out hb); clear H38; have H43 := Lib.hid (ow_below H39.out hb); clear H39; have H44 := Lib.hid (ow_below H32.out hb); clear H32; clear hb)
    | ((with_reducible refine gate_dst (N := 70) rfl ?_); refine goesL_ (some 70) rfl rfl Try.func10 (by kernel_rfl) rfl #[.slice AG20 V.1.length cG20, .int .i64 1] rfl (by simp only [List.map_toArray, List.map_cons, List.map_nil]; kernel_rfl) ?_; refine (heldO_Int M0l.out.symm H43.out M0h.out).mono ?_; rintro e w45 ⟨rfl, hb⟩; refine ⟨_, rfl, ?_⟩; have HB46 := Lib.hid (HB41.out.trans (hb.mono HB41.out.size)); clear HB41; have H47 := Lib.hid (ow_below H42.out hb); clear H42; have H48 := Lib.hid (ow_below H43.out hb); clear H43; have H49 := Lib.hid (ow_below H44.out hb); clear H44; clear hb))
  go_ret
  exact ⟨rfl, (HC.out.step HB46.out).below⟩

end Go.Proofs.Ytinpmhmagcmamaa.LWayBetween
