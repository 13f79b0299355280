/- The law FnExactGuessLoss, walked: the program and the reference answer the same. No condition. -/
import Derived.Test.YtalmlgkedcdkdaaGB
import Derived.Test.YtalmlgkedcdkdaaGC
import Derived.Test.YtalmlgkedcdkdaaGL
import Derived.Test.YtalmlgkedcdkdaaA7
import Derived.Test.YtalmlgkedcdkdaaPAllx0
namespace Go.Proofs.Ytalmlgkedcdkdaa.LGuessLoss
open Go.RowKit Go.Proofs.YtalmlgkedcdkdaaW.PrintWords Go.Proofs.YtalmlgkedcdkdaaW.PrintLast Go.Proofs.Ytalmlgkedcdkdaa.PAll
set_option linter.unusedSimpArgs false
set_option linter.unusedVariables false

set_option maxRecDepth 100000 in
set_option maxHeartbeats 8000000 in
theorem walk (w : World) (cs0 : List Value) (i0 : R.Ints fldKinds cs0) (cs1 : List Value) (i1 : R.Ints fldKinds cs1) (cs2 : List Value) (i2 : R.Ints (List.replicate 2 .u64) cs2) :
    Calls Try.prog 4 #[.agg cs0.toArray, .agg cs1.toArray, .agg cs2.toArray] w fun e w' => e = .returned (.bool true) ∧ Below w.heap.size w w' := by
  obtain ⟨F, hF', rfl⟩ := fld_of_ints i0
  have hF := Lib.hid hF'
  clear i0 hF'
  obtain ⟨G, hG', rfl⟩ := fld_of_ints i1
  have hG := Lib.hid hG'
  clear i1 hG'
  obtain ⟨U, hU', rfl⟩ := cl_of_ints i2
  have hU := Lib.hid hU'
  clear i2 hU'
  obtain ⟨V, hV⟩ : ∃ V, V = glRes F G U := ⟨_, rfl⟩
  have HSp' := fun w1 => sGuess_any F G hF.out hG.out U hU.out w1
  have HIm' := fun w1 => iGuess_any F G hF.out hG.out U hU.out w1
  rw [← hV] at HSp' HIm'
  clear hV
  have HSp := Lib.hid HSp'
  clear HSp'
  have HIm := Lib.hid HIm'
  clear HIm'
  have hV0 : (V.1 != V.1) = false := by simp
  have hV1 : (V.2 != V.2) = false := by simp
  go_enter Try.func4, Try.ntmps4
  go_upto_region 1 with (fail)
  obtain ⟨W, hW⟩ : ∃ W, W = ((w.alloc (.cells F.vals.toArray 27)).alloc (.cells G.vals.toArray 27)).alloc (.cells (vrow .u64 U).toArray 29) := ⟨_, rfl⟩
  have HC := Lib.hid (boxed3 w F.vals G.vals (vrow .u64 U) 27 27 29)
  rw [← hW] at HC ⊢
  clear hW
  have HB0 := Lib.hid (Below.refl W.heap.size W)
  refine la_start (S := fun w' => Below W.heap.size W w') (n := 12) #[false, false, false, false, false, false, false, false, false, false, false, false] (by kernel_rfl) (by kernel_rfl) (below_drewN HB0.out 1) (fun _ _ _ _ hd h => ⟨hd.symm.trans h.1, h.2⟩) (fun hPB => ?_)
  have HPB := Lib.hid hPB
  clear hPB
  have HB1 := Lib.hid (below_drewN HB0.out 1)
  clear HB0
  refine la_load (i := 0) #[true, false, false, false, false, false, false, false, false, false, false, false] (some 12) rfl rfl (by kernel_rfl) HPB.out rfl 27 (.tmp 3) rfl (w.heap.size) 0 (by kernel_rfl) F.vals _ (fun w1 h1 => (HC.out.step h1).blk (w.heap.size, F.vals, 27) (List.Mem.head _)) (by rw [List.drop_zero, List.take_length]) Try.underlying27 rfl (by rw [hF.out.len]; kernel_rfl) HB1.out ?_
  simp only [Act.put, List.setIfInBounds_toArray, List.set_cons_zero, List.set_cons_succ]
  refine la_load (i := 2) #[true, false, true, false, false, false, false, false, false, false, false, false] (some 14) rfl rfl (by kernel_rfl) HPB.out rfl 27 (.tmp 4) rfl (w.heap.size + 1) 0 (by kernel_rfl) G.vals _ (fun w1 h1 => (HC.out.step h1).blk (w.heap.size + 1, G.vals, 27) (List.Mem.tail _ (List.Mem.head _))) (by rw [List.drop_zero, List.take_length]) Try.underlying27 rfl (by rw [hG.out.len]; kernel_rfl) HB1.out ?_
  simp only [Act.put, List.setIfInBounds_toArray, List.set_cons_zero, List.set_cons_succ]
  refine la_load (i := 4) #[true, false, true, false, true, false, false, false, false, false, false, false] (some 16) rfl rfl (by kernel_rfl) HPB.out rfl 29 (.tmp 5) rfl (w.heap.size + 1 + 1) 0 (by kernel_rfl) (vrow .u64 U) _ (fun w1 h1 => (HC.out.step h1).blk (w.heap.size + 1 + 1, (vrow .u64 U), 29) (List.Mem.tail _ (List.Mem.tail _ (List.Mem.head _)))) (by rw [List.drop_zero, List.take_length]) Try.underlying29 rfl (by rw [vrow_len, hU.out.len]; kernel_rfl) HB1.out ?_
  simp only [Act.put, List.setIfInBounds_toArray, List.set_cons_zero, List.set_cons_succ]
  refine la_call (i := 1) #[true, true, true, false, true, false, false, false, false, false, false, false] (some 13) rfl rfl (by kernel_rfl) rfl Try.func6 (by kernel_rfl) rfl #[.agg F.vals.toArray] rfl (by simp only [List.map_toArray, List.map_cons, List.map_nil]; kernel_rfl) ?_
  refine (toField_any F hF.out _).mono ?_
  rintro e w2 ⟨rfl, hb⟩
  have HB3 := Lib.hid (HB1.out.trans (hb.mono HB1.out.size))
  clear HB1
  clear hb
  refine ⟨_, rfl, HB3.out, ?_⟩
  simp only [Act.put, List.setIfInBounds_toArray, List.set_cons_zero, List.set_cons_succ]
  refine la_call (i := 3) #[true, true, true, true, true, false, false, false, false, false, false, false] (some 15) rfl rfl (by kernel_rfl) rfl Try.func6 (by kernel_rfl) rfl #[.agg G.vals.toArray] rfl (by simp only [List.map_toArray, List.map_cons, List.map_nil]; kernel_rfl) ?_
  refine (toField_any G hG.out _).mono ?_
  rintro e w4 ⟨rfl, hb⟩
  have HB5 := Lib.hid (HB3.out.trans (hb.mono HB3.out.size))
  clear HB3
  clear hb
  refine ⟨_, rfl, HB5.out, ?_⟩
  simp only [Act.put, List.setIfInBounds_toArray, List.set_cons_zero, List.set_cons_succ]
  refine la_call (i := 5) #[true, true, true, true, true, true, false, false, false, false, false, false] (some 17) rfl rfl (by kernel_rfl) rfl Try.func7 (by kernel_rfl) rfl #[.agg (vrow .u64 U).toArray] rfl (by simp only [List.map_toArray, List.map_cons, List.map_nil]; kernel_rfl) ?_
  refine (toCells_any U hU.out.len _).mono ?_
  rintro e w6 ⟨rfl, hb⟩
  have HB7 := Lib.hid (HB5.out.trans (hb.mono HB5.out.size))
  clear HB5
  clear hb
  refine ⟨_, rfl, HB7.out, ?_⟩
  simp only [Act.put, List.setIfInBounds_toArray, List.set_cons_zero, List.set_cons_succ]
  refine la_call (i := 6) #[true, true, true, true, true, true, true, false, false, false, false, false] (some 18) rfl rfl (by kernel_rfl) rfl Try.func9 (by kernel_rfl) rfl #[.agg F.vals.toArray, .agg G.vals.toArray, .agg (vrow .u64 U).toArray] rfl (by simp only [List.map_toArray, List.map_cons, List.map_nil]; kernel_rfl) ?_
  refine (HSp.out _).mono ?_
  rintro e w8 ⟨rfl, hb⟩
  have HB9 := Lib.hid (HB7.out.trans (hb.mono HB7.out.size))
  clear HB7
  clear hb
  refine ⟨_, rfl, HB9.out, ?_⟩
  simp only [Act.put, List.setIfInBounds_toArray, List.set_cons_zero, List.set_cons_succ]
  refine la_fmove (i := 7) #[true, true, true, true, true, true, true, true, false, false, false, false] (some 11) rfl rfl (by kernel_rfl) HPB.out rfl (.tmp 18) rfl (.tuple #[.int .i64 V.1, .int .i64 V.2]) (by kernel_rfl) ?_
  simp only [Act.put, List.setIfInBounds_toArray, List.set_cons_zero, List.set_cons_succ]
  refine la_extract (i := 8) #[true, true, true, true, true, true, true, true, true, false, false, false] (some 19) rfl rfl (by kernel_rfl) HPB.out rfl (.tmp 11) 0 rfl #[.int .i64 V.1, .int .i64 V.2] (by kernel_rfl) (.int .i64 V.1) (by simp) ?_
  simp only [Act.put, List.setIfInBounds_toArray, List.set_cons_zero, List.set_cons_succ]
  refine la_extract (i := 9) #[true, true, true, true, true, true, true, true, true, true, false, false] (some 20) rfl rfl (by kernel_rfl) HPB.out rfl (.tmp 11) 1 rfl #[.int .i64 V.1, .int .i64 V.2] (by kernel_rfl) (.int .i64 V.2) (by simp) ?_
  simp only [Act.put, List.setIfInBounds_toArray, List.set_cons_zero, List.set_cons_succ]
  refine la_assign (i := 10) #[true, true, true, true, true, true, true, true, true, true, true, false] (some 7) rfl rfl (by kernel_rfl) rfl (.tmp 19) rfl (.int .i64 V.1) (by kernel_rfl) HB9.out ?_
  simp only [Act.put, List.setIfInBounds_toArray, List.set_cons_zero, List.set_cons_succ]
  refine la_assign (i := 11) #[true, true, true, true, true, true, true, true, true, true, true, true] (some 8) rfl rfl (by kernel_rfl) rfl (.tmp 20) rfl (.int .i64 V.2) (by kernel_rfl) HB9.out ?_
  simp only [Act.put, List.setIfInBounds_toArray, List.set_cons_zero, List.set_cons_succ]
  refine la_done (by kernel_rfl) ?_
  clear HPB
  go_upto_region 2 with (fail)
  refine la_start (S := fun w' => Below W.heap.size W w') (n := 12) #[false, false, false, false, false, false, false, false, false, false, false, false] (by kernel_rfl) (by kernel_rfl) (below_drewN HB9.out 1) (fun _ _ _ _ hd h => ⟨hd.symm.trans h.1, h.2⟩) (fun hPB => ?_)
  have HPB := Lib.hid hPB
  clear hPB
  have HB10 := Lib.hid (below_drewN HB9.out 1)
  clear HB9
  refine la_load (i := 0) #[true, false, false, false, false, false, false, false, false, false, false, false] (some 22) rfl rfl (by kernel_rfl) HPB.out rfl 27 (.tmp 3) rfl (w.heap.size) 0 (by kernel_rfl) F.vals _ (fun w1 h1 => (HC.out.step h1).blk (w.heap.size, F.vals, 27) (List.Mem.head _)) (by rw [List.drop_zero, List.take_length]) Try.underlying27 rfl (by rw [hF.out.len]; kernel_rfl) HB10.out ?_
  simp only [Act.put, List.setIfInBounds_toArray, List.set_cons_zero, List.set_cons_succ]
  refine la_load (i := 2) #[true, false, true, false, false, false, false, false, false, false, false, false] (some 24) rfl rfl (by kernel_rfl) HPB.out rfl 27 (.tmp 4) rfl (w.heap.size + 1) 0 (by kernel_rfl) G.vals _ (fun w1 h1 => (HC.out.step h1).blk (w.heap.size + 1, G.vals, 27) (List.Mem.tail _ (List.Mem.head _))) (by rw [List.drop_zero, List.take_length]) Try.underlying27 rfl (by rw [hG.out.len]; kernel_rfl) HB10.out ?_
  simp only [Act.put, List.setIfInBounds_toArray, List.set_cons_zero, List.set_cons_succ]
  refine la_load (i := 4) #[true, false, true, false, true, false, false, false, false, false, false, false] (some 26) rfl rfl (by kernel_rfl) HPB.out rfl 29 (.tmp 5) rfl (w.heap.size + 1 + 1) 0 (by kernel_rfl) (vrow .u64 U) _ (fun w1 h1 => (HC.out.step h1).blk (w.heap.size + 1 + 1, (vrow .u64 U), 29) (List.Mem.tail _ (List.Mem.tail _ (List.Mem.head _)))) (by rw [List.drop_zero, List.take_length]) Try.underlying29 rfl (by rw [vrow_len, hU.out.len]; kernel_rfl) HB10.out ?_
  simp only [Act.put, List.setIfInBounds_toArray, List.set_cons_zero, List.set_cons_succ]
  refine la_call (i := 1) #[true, true, true, false, true, false, false, false, false, false, false, false] (some 23) rfl rfl (by kernel_rfl) rfl Try.func6 (by kernel_rfl) rfl #[.agg F.vals.toArray] rfl (by simp only [List.map_toArray, List.map_cons, List.map_nil]; kernel_rfl) ?_
  refine (toField_any F hF.out _).mono ?_
  rintro e w11 ⟨rfl, hb⟩
  have HB12 := Lib.hid (HB10.out.trans (hb.mono HB10.out.size))
  clear HB10
  clear hb
  refine ⟨_, rfl, HB12.out, ?_⟩
  simp only [Act.put, List.setIfInBounds_toArray, List.set_cons_zero, List.set_cons_succ]
  refine la_call (i := 3) #[true, true, true, true, true, false, false, false, false, false, false, false] (some 25) rfl rfl (by kernel_rfl) rfl Try.func6 (by kernel_rfl) rfl #[.agg G.vals.toArray] rfl (by simp only [List.map_toArray, List.map_cons, List.map_nil]; kernel_rfl) ?_
  refine (toField_any G hG.out _).mono ?_
  rintro e w13 ⟨rfl, hb⟩
  have HB14 := Lib.hid (HB12.out.trans (hb.mono HB12.out.size))
  clear HB12
  clear hb
  refine ⟨_, rfl, HB14.out, ?_⟩
  simp only [Act.put, List.setIfInBounds_toArray, List.set_cons_zero, List.set_cons_succ]
  refine la_call (i := 5) #[true, true, true, true, true, true, false, false, false, false, false, false] (some 27) rfl rfl (by kernel_rfl) rfl Try.func7 (by kernel_rfl) rfl #[.agg (vrow .u64 U).toArray] rfl (by simp only [List.map_toArray, List.map_cons, List.map_nil]; kernel_rfl) ?_
  refine (toCells_any U hU.out.len _).mono ?_
  rintro e w15 ⟨rfl, hb⟩
  have HB16 := Lib.hid (HB14.out.trans (hb.mono HB14.out.size))
  clear HB14
  clear hb
  refine ⟨_, rfl, HB16.out, ?_⟩
  simp only [Act.put, List.setIfInBounds_toArray, List.set_cons_zero, List.set_cons_succ]
  refine la_call (i := 6) #[true, true, true, true, true, true, true, false, false, false, false, false] (some 28) rfl rfl (by kernel_rfl) rfl Try.func10 (by kernel_rfl) rfl #[.agg F.vals.toArray, .agg G.vals.toArray, .agg (vrow .u64 U).toArray] rfl (by simp only [List.map_toArray, List.map_cons, List.map_nil]; kernel_rfl) ?_
  refine (HIm.out _).mono ?_
  rintro e w17 ⟨rfl, hb⟩
  have HB18 := Lib.hid (HB16.out.trans (hb.mono HB16.out.size))
  clear HB16
  clear hb
  refine ⟨_, rfl, HB18.out, ?_⟩
  simp only [Act.put, List.setIfInBounds_toArray, List.set_cons_zero, List.set_cons_succ]
  refine la_fmove (i := 7) #[true, true, true, true, true, true, true, true, false, false, false, false] (some 21) rfl rfl (by kernel_rfl) HPB.out rfl (.tmp 28) rfl (.tuple #[.int .i64 V.1, .int .i64 V.2]) (by kernel_rfl) ?_
  simp only [Act.put, List.setIfInBounds_toArray, List.set_cons_zero, List.set_cons_succ]
  refine la_extract (i := 8) #[true, true, true, true, true, true, true, true, true, false, false, false] (some 29) rfl rfl (by kernel_rfl) HPB.out rfl (.tmp 21) 0 rfl #[.int .i64 V.1, .int .i64 V.2] (by kernel_rfl) (.int .i64 V.1) (by simp) ?_
  simp only [Act.put, List.setIfInBounds_toArray, List.set_cons_zero, List.set_cons_succ]
  refine la_extract (i := 9) #[true, true, true, true, true, true, true, true, true, true, false, false] (some 30) rfl rfl (by kernel_rfl) HPB.out rfl (.tmp 21) 1 rfl #[.int .i64 V.1, .int .i64 V.2] (by kernel_rfl) (.int .i64 V.2) (by simp) ?_
  simp only [Act.put, List.setIfInBounds_toArray, List.set_cons_zero, List.set_cons_succ]
  refine la_assign (i := 10) #[true, true, true, true, true, true, true, true, true, true, true, false] (some 9) rfl rfl (by kernel_rfl) rfl (.tmp 29) rfl (.int .i64 V.1) (by kernel_rfl) HB18.out ?_
  simp only [Act.put, List.setIfInBounds_toArray, List.set_cons_zero, List.set_cons_succ]
  refine la_assign (i := 11) #[true, true, true, true, true, true, true, true, true, true, true, true] (some 10) rfl rfl (by kernel_rfl) rfl (.tmp 30) rfl (.int .i64 V.2) (by kernel_rfl) HB18.out ?_
  simp only [Act.put, List.setIfInBounds_toArray, List.set_cons_zero, List.set_cons_succ]
  refine la_done (by kernel_rfl) ?_
  clear HPB
  go_upto_region 3 with (fail)
  go_wp2_with (first
    | fail)
  go_ret
  exact ⟨rfl, (HC.out.step HB18.out).below⟩

end Go.Proofs.Ytalmlgkedcdkdaa.LGuessLoss
