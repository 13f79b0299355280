/- The law FnExactWatchersFor, walked: the program and the reference answer the same. No condition. -/
import Derived.Test.YtmhkechkkpppaaaGB
import Derived.Test.YtmhkechkkpppaaaGC
import Derived.Test.YtmhkechkkpppaaaB7
import Derived.Test.YtmhkechkkpppaaaMkBeat
import Derived.Test.YtmhkechkkpppaaaA7
namespace Go.Proofs.Ytmhkechkkpppaaa.LWatchersFor
open Go.RowKit Go.Proofs.YtmhkechkkpppaaaW.PrintWords Go.Proofs.YtmhkechkkpppaaaW.PrintLast Go.Proofs.Ytmhkechkkpppaaa.PAll
set_option linter.unusedSimpArgs false
set_option linter.unusedVariables false

set_option maxRecDepth 100000 in
set_option maxHeartbeats 8000000 in
theorem walk (w : World) (cs0 : List Value) (i0 : R.Ints fldKinds cs0) (A1 : Option Addr) (c1 : Nat) (b : List Int) (hc1 : b.length ≤ c1) (hm1 : b.length ≤ maxLen) (hw1 : ∀ x ∈ b, (Lit.int .i16 x).wf = true) (hC1 : Kd.C (Kd.int .i16) w A1 b.length b) (s : Int) (ws : (Lit.int .i64 s).wf = true) (cs3 : List Value) (i3 : R.Ints (List.replicate 2 .u64) cs3) (most : Int) (wmost : (Lit.int .i64 most).wf = true) :
    Calls Try.prog 12 #[.agg cs0.toArray, .slice A1 b.length c1, .int .i64 s, .agg cs3.toArray, .int .i64 most] w fun e w' => e = .returned (.bool true) ∧ Below w.heap.size w w' := by
  obtain ⟨F, hF', rfl⟩ := fld_of_ints i0
  have hF := Lib.hid hF'
  clear i0 hF'
  obtain ⟨U, hU', rfl⟩ := cl_of_ints i3
  have hU := Lib.hid hU'
  clear i3 hU'
  by_cases hlen1 : b.length ≤ 1048576
  case neg =>
    have hl1 : (1048576 : Int) < (b.length : Int) := by omega
    have hmm := hm1
    unfold maxLen at hmm
    clear hC1 hw1 hm1
    go_enter Try.func12, Try.ntmps12
    go_wp2
    go_ret
    exact ⟨rfl, (boxed2 w F.vals (vrow .u64 U) 27 39).below⟩
  have hbo' : BtOk b := btOk_of hw1
  have hbo := Lib.hid hbo'
  clear hbo'
  obtain ⟨V, hV⟩ : ∃ V, V = wfRes F b s U most := ⟨_, rfl⟩
  have HSp' := fun A n w1 hA hlc => sWatchersFor_any F hF.out b hbo.out s U hU.out most A n w1 hA hlc
  have HIm' := fun A n w1 hA hlc => iWatchersFor_any F hF.out b hbo.out s U hU.out most A n w1 hA hlc
  rw [← hV] at HSp' HIm'
  clear hV
  have HSp := Lib.hid HSp'
  clear HSp'
  have HIm := Lib.hid HIm'
  clear HIm'
  have hV0 : (V.1 != V.1) = false := by simp
  have hV1 : (V.2 != V.2) = false := by simp
  have HCP1 := Lib.hid hC1
  have HCc1 := Lib.hid hc1
  have hmm1p := hm1
  unfold maxLen at hmm1p
  clear hC1 hc1 hm1
  have HWf1 := Lib.hid hw1
  clear hw1
  go_enter Try.func12, Try.ntmps12
  go_upto_region 1 with (fail)
  obtain ⟨W, hW⟩ : ∃ W, W = (w.alloc (.cells F.vals.toArray 27)).alloc (.cells (vrow .u64 U).toArray 39) := ⟨_, rfl⟩
  have HC := Lib.hid (boxed2 w F.vals (vrow .u64 U) 27 39)
  rw [← hW] at HC ⊢
  clear hW
  have HB0 := Lib.hid (Below.refl W.heap.size W)
  go_upto_region 3 with (first
    | fail)
  refine la_start (S := fun w' => Below W.heap.size W w') (n := 14) #[false, false, false, false, false, false, false, false, false, false, false, false, false, false] (by kernel_rfl) (by kernel_rfl) (below_drewN HB0.out 1) (fun _ _ _ _ hd h => ⟨hd.symm.trans h.1, h.2⟩) (fun hPB => ?_)
  have HPB := Lib.hid hPB
  clear hPB
  have HB1 := Lib.hid (below_drewN HB0.out 1)
  clear HB0
  refine la_load (i := 0) #[true, false, false, false, false, false, false, false, false, false, false, false, false, false] (some 20) rfl rfl (by kernel_rfl) HPB.out rfl 27 (.tmp 5) rfl (w.heap.size) 0 (by kernel_rfl) F.vals _ (fun w1 h1 => (HC.out.step h1).blk (w.heap.size, F.vals, 27) (List.Mem.head _)) (by rw [List.drop_zero, List.take_length]) Try.underlying27 rfl (by rw [hF.out.len]; kernel_rfl) HB1.out ?_
  simp only [Act.put, List.setIfInBounds_toArray, List.set_cons_zero, List.set_cons_succ]
  refine la_fmove (i := 2) #[true, false, true, false, false, false, false, false, false, false, false, false, false, false] (some 22) rfl rfl (by kernel_rfl) HPB.out rfl (.tmp 1) rfl (.slice A1 b.length c1) (by kernel_rfl) ?_
  simp only [Act.put, List.setIfInBounds_toArray, List.set_cons_zero, List.set_cons_succ]
  refine la_fmove (i := 4) #[true, false, true, false, true, false, false, false, false, false, false, false, false, false] (some 24) rfl rfl (by kernel_rfl) HPB.out rfl (.tmp 2) rfl (.int .i64 s) (by kernel_rfl) ?_
  simp only [Act.put, List.setIfInBounds_toArray, List.set_cons_zero, List.set_cons_succ]
  refine la_load (i := 5) #[true, false, true, false, true, true, false, false, false, false, false, false, false, false] (some 25) rfl rfl (by kernel_rfl) HPB.out rfl 39 (.tmp 8) rfl (w.heap.size + 1) 0 (by kernel_rfl) (vrow .u64 U) _ (fun w1 h1 => (HC.out.step h1).blk (w.heap.size + 1, (vrow .u64 U), 39) (List.Mem.tail _ (List.Mem.head _))) (by rw [List.drop_zero, List.take_length]) Try.underlying39 rfl (by rw [vrow_len, hU.out.len]; kernel_rfl) HB1.out ?_
  simp only [Act.put, List.setIfInBounds_toArray, List.set_cons_zero, List.set_cons_succ]
  refine la_fmove (i := 7) #[true, false, true, false, true, true, false, true, false, false, false, false, false, false] (some 27) rfl rfl (by kernel_rfl) HPB.out rfl (.tmp 4) rfl (.int .i64 most) (by kernel_rfl) ?_
  simp only [Act.put, List.setIfInBounds_toArray, List.set_cons_zero, List.set_cons_succ]
  refine la_call (i := 1) #[true, true, true, false, true, true, false, true, false, false, false, false, false, false] (some 21) rfl rfl (by kernel_rfl) rfl Try.func14 (by kernel_rfl) rfl #[.agg F.vals.toArray] rfl (by simp only [List.map_toArray, List.map_cons, List.map_nil]; kernel_rfl) ?_
  refine (toField_any F hF.out _).mono ?_
  rintro e w2 ⟨rfl, hb⟩
  have HB3 := Lib.hid (HB1.out.trans (hb.mono HB1.out.size))
  clear HB1
  clear hb
  refine ⟨_, rfl, HB3.out, ?_⟩
  simp only [Act.put, List.setIfInBounds_toArray, List.set_cons_zero, List.set_cons_succ]
  refine la_call (i := 3) #[true, true, true, true, true, true, false, true, false, false, false, false, false, false] (some 23) rfl rfl (by kernel_rfl) rfl Try.func15 (by kernel_rfl) rfl #[.slice A1 b.length c1] rfl (by simp only [List.map_toArray, List.map_cons, List.map_nil]; kernel_rfl) ?_
  refine (toBeat_any (w := _) b  (Kd.C_below HCP1.out (HC.out.step HB3.out).below) hlen1 HCc1.out).mono ?_
  rintro e w4 ⟨vv, rfl, hm, hb⟩
  obtain ⟨AX1, cX1, hv⟩ := Kd.R_slice hm
  subst hv
  have H5 := Lib.hid (ow_new (d := (Kd.int .i16)) rfl hm HB3.out)
  have HB6 := Lib.hid (HB3.out.trans (hb.mono HB3.out.size))
  clear HB3
  clear hm hb
  refine ⟨_, rfl, HB6.out, ?_⟩
  simp only [Act.put, List.setIfInBounds_toArray, List.set_cons_zero, List.set_cons_succ]
  refine la_call (i := 6) #[true, true, true, true, true, true, true, true, false, false, false, false, false, false] (some 26) rfl rfl (by kernel_rfl) rfl Try.func40 (by kernel_rfl) rfl #[.agg (vrow .u64 U).toArray] rfl (by simp only [List.map_toArray, List.map_cons, List.map_nil]; kernel_rfl) ?_
  refine (toCells_any U hU.out.len _).mono ?_
  rintro e w7 ⟨rfl, hb⟩
  have HB8 := Lib.hid (HB6.out.trans (hb.mono HB6.out.size))
  clear HB6
  have H9 := Lib.hid (ow_below H5.out hb)
  clear H5
  clear hb
  refine ⟨_, rfl, HB8.out, ?_⟩
  simp only [Act.put, List.setIfInBounds_toArray, List.set_cons_zero, List.set_cons_succ]
  refine la_call (i := 8) #[true, true, true, true, true, true, true, true, true, false, false, false, false, false] (some 28) rfl rfl (by kernel_rfl) rfl Try.func42 (by kernel_rfl) rfl #[.agg F.vals.toArray, .slice AX1 b.length cX1, .int .i64 s, .agg (vrow .u64 U).toArray, .int .i64 most] rfl (by simp only [List.map_toArray, List.map_cons, List.map_nil]; kernel_rfl) ?_
  refine (HSp.out _ _ _ (ow_C H9.out) (ow_cap H9.out)).mono ?_
  rintro e w10 ⟨rfl, hb⟩
  have HB11 := Lib.hid (HB8.out.trans (hb.mono HB8.out.size))
  clear HB8
  have H12 := Lib.hid (ow_below H9.out hb)
  clear H9
  clear hb
  refine ⟨_, rfl, HB11.out, ?_⟩
  simp only [Act.put, List.setIfInBounds_toArray, List.set_cons_zero, List.set_cons_succ]
  refine la_fmove (i := 9) #[true, true, true, true, true, true, true, true, true, true, false, false, false, false] (some 19) rfl rfl (by kernel_rfl) HPB.out rfl (.tmp 28) rfl (.tuple #[.int .i64 V.1, .int .i64 V.2]) (by kernel_rfl) ?_
  simp only [Act.put, List.setIfInBounds_toArray, List.set_cons_zero, List.set_cons_succ]
  refine la_extract (i := 10) #[true, true, true, true, true, true, true, true, true, true, true, false, false, false] (some 29) rfl rfl (by kernel_rfl) HPB.out rfl (.tmp 19) 0 rfl #[.int .i64 V.1, .int .i64 V.2] (by kernel_rfl) (.int .i64 V.1) (by simp) ?_
  simp only [Act.put, List.setIfInBounds_toArray, List.set_cons_zero, List.set_cons_succ]
  refine la_extract (i := 11) #[true, true, true, true, true, true, true, true, true, true, true, true, false, false] (some 30) rfl rfl (by kernel_rfl) HPB.out rfl (.tmp 19) 1 rfl #[.int .i64 V.1, .int .i64 V.2] (by kernel_rfl) (.int .i64 V.2) (by simp) ?_
  simp only [Act.put, List.setIfInBounds_toArray, List.set_cons_zero, List.set_cons_succ]
  refine la_assign (i := 12) #[true, true, true, true, true, true, true, true, true, true, true, true, true, false] (some 11) rfl rfl (by kernel_rfl) rfl (.tmp 29) rfl (.int .i64 V.1) (by kernel_rfl) HB11.out ?_
  simp only [Act.put, List.setIfInBounds_toArray, List.set_cons_zero, List.set_cons_succ]
  refine la_assign (i := 13) #[true, true, true, true, true, true, true, true, true, true, true, true, true, true] (some 12) rfl rfl (by kernel_rfl) rfl (.tmp 30) rfl (.int .i64 V.2) (by kernel_rfl) HB11.out ?_
  simp only [Act.put, List.setIfInBounds_toArray, List.set_cons_zero, List.set_cons_succ]
  refine la_done (by kernel_rfl) ?_
  clear HPB
  go_upto_region 4 with (fail)
  go_upto_region 5 with (first
    | ((with_reducible refine gate_dst (N := 32) rfl ?_); refine goesL_ (some 32) rfl rfl Try.func15 (by kernel_rfl) rfl #[.slice A1 b.length c1] rfl (by simp only [List.map_toArray, List.map_cons, List.map_nil]; kernel_rfl) ?_; refine (toBeat_any (w := _) b  (Kd.C_below HCP1.out (HC.out.step HB11.out).below) hlen1 HCc1.out).mono ?_; rintro e w13 ⟨vv, rfl, hm, hb⟩; refine ⟨_, rfl, ?_⟩; obtain ⟨AX3, cX3, hv⟩ := Kd.R_slice hm; subst hv; have H14 := Lib.hid (ow_new (d := (Kd.int .i16)) rfl hm HB11.out); have HA15 := Lib.hid (apart_new hm H12.out).1; have HA16 := Lib.hid (apart_new hm H12.out).2; have HB17 := Lib.hid (HB11.out.trans (hb.mono HB11.out.size)); clear HB11; have H18 := Lib.hid (ow_below H12.out hb); clear H12; clear hm hb))
  refine la_start (S := fun w' => Below W.heap.size W w') (n := 13) #[false, false, false, false, false, false, false, false, false, false, false, false, false] (by kernel_rfl) (by kernel_rfl) (below_drewN HB17.out 1) (fun _ _ _ _ hd h => ⟨hd.symm.trans h.1, h.2⟩) (fun hPB => ?_)
  have HPB := Lib.hid hPB
  clear hPB
  have HB19 := Lib.hid (below_drewN HB17.out 1)
  clear HB17
  have H20 := Lib.hid (Kd.R_drewN H18.out 1)
  clear H18
  have H21 := Lib.hid (Kd.R_drewN H14.out 1)
  clear H14
  refine la_load (i := 0) #[true, false, false, false, false, false, false, false, false, false, false, false, false] (some 34) rfl rfl (by kernel_rfl) HPB.out rfl 27 (.tmp 5) rfl (w.heap.size) 0 (by kernel_rfl) F.vals _ (fun w1 h1 => (HC.out.step h1).blk (w.heap.size, F.vals, 27) (List.Mem.head _)) (by rw [List.drop_zero, List.take_length]) Try.underlying27 rfl (by rw [hF.out.len]; kernel_rfl) HB19.out ?_
  simp only [Act.put, List.setIfInBounds_toArray, List.set_cons_zero, List.set_cons_succ]
  refine la_fmove (i := 2) #[true, false, true, false, false, false, false, false, false, false, false, false, false] (some 36) rfl rfl (by kernel_rfl) HPB.out rfl (.tmp 13) rfl (.slice AX3 b.length cX3) (by kernel_rfl) ?_
  simp only [Act.put, List.setIfInBounds_toArray, List.set_cons_zero, List.set_cons_succ]
  refine la_fmove (i := 3) #[true, false, true, true, false, false, false, false, false, false, false, false, false] (some 37) rfl rfl (by kernel_rfl) HPB.out rfl (.tmp 2) rfl (.int .i64 s) (by kernel_rfl) ?_
  simp only [Act.put, List.setIfInBounds_toArray, List.set_cons_zero, List.set_cons_succ]
  refine la_load (i := 4) #[true, false, true, true, true, false, false, false, false, false, false, false, false] (some 38) rfl rfl (by kernel_rfl) HPB.out rfl 39 (.tmp 8) rfl (w.heap.size + 1) 0 (by kernel_rfl) (vrow .u64 U) _ (fun w1 h1 => (HC.out.step h1).blk (w.heap.size + 1, (vrow .u64 U), 39) (List.Mem.tail _ (List.Mem.head _))) (by rw [List.drop_zero, List.take_length]) Try.underlying39 rfl (by rw [vrow_len, hU.out.len]; kernel_rfl) HB19.out ?_
  simp only [Act.put, List.setIfInBounds_toArray, List.set_cons_zero, List.set_cons_succ]
  refine la_fmove (i := 6) #[true, false, true, true, true, false, true, false, false, false, false, false, false] (some 40) rfl rfl (by kernel_rfl) HPB.out rfl (.tmp 4) rfl (.int .i64 most) (by kernel_rfl) ?_
  simp only [Act.put, List.setIfInBounds_toArray, List.set_cons_zero, List.set_cons_succ]
  refine la_call (i := 1) #[true, true, true, true, true, false, true, false, false, false, false, false, false] (some 35) rfl rfl (by kernel_rfl) rfl Try.func14 (by kernel_rfl) rfl #[.agg F.vals.toArray] rfl (by simp only [List.map_toArray, List.map_cons, List.map_nil]; kernel_rfl) ?_
  refine (toField_any F hF.out _).mono ?_
  rintro e w22 ⟨rfl, hb⟩
  have HB23 := Lib.hid (HB19.out.trans (hb.mono HB19.out.size))
  clear HB19
  have H24 := Lib.hid (ow_below H20.out hb)
  clear H20
  have H25 := Lib.hid (ow_below H21.out hb)
  clear H21
  clear hb
  refine ⟨_, rfl, HB23.out, ?_⟩
  simp only [Act.put, List.setIfInBounds_toArray, List.set_cons_zero, List.set_cons_succ]
  refine la_call (i := 5) #[true, true, true, true, true, true, true, false, false, false, false, false, false] (some 39) rfl rfl (by kernel_rfl) rfl Try.func40 (by kernel_rfl) rfl #[.agg (vrow .u64 U).toArray] rfl (by simp only [List.map_toArray, List.map_cons, List.map_nil]; kernel_rfl) ?_
  refine (toCells_any U hU.out.len _).mono ?_
  rintro e w26 ⟨rfl, hb⟩
  have HB27 := Lib.hid (HB23.out.trans (hb.mono HB23.out.size))
  clear HB23
  have H28 := Lib.hid (ow_below H24.out hb)
  clear H24
  have H29 := Lib.hid (ow_below H25.out hb)
  clear H25
  clear hb
  refine ⟨_, rfl, HB27.out, ?_⟩
  simp only [Act.put, List.setIfInBounds_toArray, List.set_cons_zero, List.set_cons_succ]
  refine la_call (i := 7) #[true, true, true, true, true, true, true, true, false, false, false, false, false] (some 41) rfl rfl (by kernel_rfl) rfl Try.func43 (by kernel_rfl) rfl #[.agg F.vals.toArray, .slice AX3 b.length cX3, .int .i64 s, .agg (vrow .u64 U).toArray, .int .i64 most] rfl (by simp only [List.map_toArray, List.map_cons, List.map_nil]; kernel_rfl) ?_
  refine (HIm.out _ _ _ (ow_C H29.out) (ow_cap H29.out)).mono ?_
  rintro e w30 ⟨rfl, hb⟩
  have HB31 := Lib.hid (HB27.out.trans (hb.mono HB27.out.size))
  clear HB27
  have H32 := Lib.hid (ow_below H28.out hb)
  clear H28
  have H33 := Lib.hid (ow_below H29.out hb)
  clear H29
  clear hb
  refine ⟨_, rfl, HB31.out, ?_⟩
  simp only [Act.put, List.setIfInBounds_toArray, List.set_cons_zero, List.set_cons_succ]
  refine la_fmove (i := 8) #[true, true, true, true, true, true, true, true, true, false, false, false, false] (some 33) rfl rfl (by kernel_rfl) HPB.out rfl (.tmp 41) rfl (.tuple #[.int .i64 V.1, .int .i64 V.2]) (by kernel_rfl) ?_
  simp only [Act.put, List.setIfInBounds_toArray, List.set_cons_zero, List.set_cons_succ]
  refine la_extract (i := 9) #[true, true, true, true, true, true, true, true, true, true, false, false, false] (some 42) rfl rfl (by kernel_rfl) HPB.out rfl (.tmp 33) 0 rfl #[.int .i64 V.1, .int .i64 V.2] (by kernel_rfl) (.int .i64 V.1) (by simp) ?_
  simp only [Act.put, List.setIfInBounds_toArray, List.set_cons_zero, List.set_cons_succ]
  refine la_extract (i := 10) #[true, true, true, true, true, true, true, true, true, true, true, false, false] (some 43) rfl rfl (by kernel_rfl) HPB.out rfl (.tmp 33) 1 rfl #[.int .i64 V.1, .int .i64 V.2] (by kernel_rfl) (.int .i64 V.2) (by simp) ?_
  simp only [Act.put, List.setIfInBounds_toArray, List.set_cons_zero, List.set_cons_succ]
  refine la_assign (i := 11) #[true, true, true, true, true, true, true, true, true, true, true, true, false] (some 14) rfl rfl (by kernel_rfl) rfl (.tmp 42) rfl (.int .i64 V.1) (by kernel_rfl) HB31.out ?_
  simp only [Act.put, List.setIfInBounds_toArray, List.set_cons_zero, List.set_cons_succ]
  refine la_assign (i := 12) #[true, true, true, true, true, true, true, true, true, true, true, true, true] (some 15) rfl rfl (by kernel_rfl) rfl (.tmp 43) rfl (.int .i64 V.2) (by kernel_rfl) HB31.out ?_
  simp only [Act.put, List.setIfInBounds_toArray, List.set_cons_zero, List.set_cons_succ]
  refine la_done (by kernel_rfl) ?_
  clear HPB
  go_upto_region 6 with (fail)
  go_wp2_with (first
    | ((with_reducible refine gate_dst (N := 54) rfl ?_); refine goesL_ (some 54) rfl rfl Try.func15 (by kernel_rfl) rfl #[.slice A1 b.length c1] rfl (by simp only [List.map_toArray, List.map_cons, List.map_nil]; kernel_rfl) ?_; refine (toBeat_any (w := _) b  (Kd.C_below HCP1.out (HC.out.step HB31.out).below) hlen1 HCc1.out).mono ?_; rintro e w34 ⟨vv, rfl, hm, hb⟩; refine ⟨_, rfl, ?_⟩; obtain ⟨AX5, cX5, hv⟩ := Kd.R_slice hm; subst hv; have H35 := Lib.hid (ow_new (d := (Kd.int .i16)) rfl hm HB31.out); have HA36 := Lib.hid (apart_new hm H32.out).1; have HA37 := Lib.hid (apart_new hm H32.out).2; have HA38 := Lib.hid (apart_new hm H33.out).1; have HA39 := Lib.hid (apart_new hm H33.out).2; have HB40 := Lib.hid (HB31.out.trans (hb.mono HB31.out.size)); clear HB31; have H41 := Lib.hid (ow_below H32.out hb); clear H32; have H42 := Lib.hid (ow_below H33.out hb); clear H33; clear hm hb)
    | ((with_reducible refine gate_dst (N := 55) rfl ?_); refine goesL_ (some 55) rfl rfl Try.func17 (by kernel_rfl) rfl #[.slice AX3 b.length cX3, .slice AX5 b.length cX5] rfl (by simp only [List.map_toArray, List.map_cons, List.map_nil]; kernel_rfl) ?_; refine (eqO_Beat H42.out H35.out hlen1).mono ?_; rintro e w43 ⟨rfl, hb⟩; refine ⟨_, rfl, ?_⟩; have HB44 := Lib.hid (HB40.out.trans (hb.mono HB40.out.size)); clear HB40; have H45 := Lib.hid (ow_below H41.out hb); clear H41; have H46 := Lib.hid (ow_below H42.out hb); clear H42; have H47 := Lib.hid (ow_below H35.out hb); clear H35; clear hb))
  go_ret
  exact ⟨rfl, (HC.out.step HB44.out).below⟩

end Go.Proofs.Ytmhkechkkpppaaa.LWatchersFor
