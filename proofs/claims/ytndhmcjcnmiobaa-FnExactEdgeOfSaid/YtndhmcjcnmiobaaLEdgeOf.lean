/- The law FnExactEdgeOf, walked: the program and the reference answer the same. No condition. -/
import Derived.Test.YtndhmcjcnmiobaaGB
import Derived.Test.YtndhmcjcnmiobaaGA
import Derived.Test.YtndhmcjcnmiobaaA5
namespace Go.Proofs.Ytndhmcjcnmiobaa.LEdgeOf
open Go.RowKit
set_option linter.unusedSimpArgs false
set_option linter.unusedVariables false

set_option maxHeartbeats 1000000 in
theorem walk (cs0 : List Value) (i0 : R.Ints fldKinds cs0) (cs1 : List Value) (i1 : R.Ints [.i8,.i8,.i8,.i8] cs1) (w : World) :
    Calls Try.prog 5 #[.agg cs0.toArray, .agg cs1.toArray] w fun e w' => e = .returned (.bool true) ∧ Below w.heap.size w w' := by
  obtain ⟨F, hF', rfl⟩ := fld_of_ints i0
  have hF := Lib.hid hF'
  clear i0 hF'
  obtain ⟨n, hn', rfl⟩ := net_of_ints i1
  have hn := Lib.hid hn'
  clear i1 hn'
  obtain ⟨V, hV⟩ : ∃ V, V = edgeRes F n := ⟨_, rfl⟩
  have HSp' := fun w1 => sEdgeOf_any F hF.out n hn.out w1
  have HIm' := fun w1 => iEdgeOf_any F hF.out n hn.out w1
  rw [← hV] at HSp' HIm'
  clear hV
  have HSp := Lib.hid HSp'
  clear HSp'
  have HIm := Lib.hid HIm'
  clear HIm'
  go_enter Try.func5, Try.ntmps5
  go_upto_region 1 with (fail)
  obtain ⟨W, hW⟩ : ∃ W, W = (w.alloc (.cells F.vals.toArray 27)).alloc (.cells n.vals.toArray 38) := ⟨_, rfl⟩
  have HC := Lib.hid (boxed2 w F.vals n.vals 27 38)
  rw [← hW] at HC ⊢
  clear hW
  refine wp_region_class (Cls w [(w.heap.size, F.vals, 27), (w.heap.size + 1, n.vals, 38)]) (by kernel_rfl) (by kernel_rfl) HC.out.drew ?_
  refine q_load (some 10) rfl rfl 27 (.tmp 2) rfl (w.heap.size) 0 (by kernel_rfl) F.vals _ (fun w1 h1 => h1.blk (w.heap.size, F.vals, 27) (List.Mem.head _)) (by rw [List.drop_zero, List.take_length]) Try.underlying27 rfl (by rw [hF.out.len]; kernel_rfl) ?_
  simp only [Act.put, List.setIfInBounds_toArray, List.set_cons_zero, List.set_cons_succ]
  refine q_call (some 11) rfl rfl Try.func11 (by kernel_rfl) rfl #[.agg F.vals.toArray] rfl (by simp only [List.map_toArray, List.map_cons, List.map_nil]; kernel_rfl) (.agg F.vals.toArray) (fun w1 h1 => h1.calls (toField_any F hF.out w1)) ?_
  simp only [Act.put, List.setIfInBounds_toArray, List.set_cons_zero, List.set_cons_succ]
  refine q_load (some 12) rfl rfl 38 (.tmp 3) rfl (w.heap.size + 1) 0 (by kernel_rfl) n.vals _ (fun w1 h1 => h1.blk (w.heap.size + 1, n.vals, 38) (List.Mem.tail _ (List.Mem.head _))) (by rw [List.drop_zero, List.take_length]) Try.underlying38 rfl (by kernel_rfl) ?_
  simp only [Act.put, List.setIfInBounds_toArray, List.set_cons_zero, List.set_cons_succ]
  refine q_call (some 13) rfl rfl Try.func16 (by kernel_rfl) rfl #[.agg n.vals.toArray] rfl (by simp only [List.map_toArray, List.map_cons, List.map_nil]; kernel_rfl) (.agg n.vals.toArray) (fun w1 h1 => h1.calls (toNet_any n w1)) ?_
  simp only [Act.put, List.setIfInBounds_toArray, List.set_cons_zero, List.set_cons_succ]
  refine q_call (some 14) rfl rfl Try.func18 (by kernel_rfl) rfl #[.agg F.vals.toArray, .agg n.vals.toArray] rfl (by simp only [List.map_toArray, List.map_cons, List.map_nil]; kernel_rfl) (.tuple #[.int .i64 V.1, .int .i64 V.2]) (fun w1 h1 => h1.calls (HSp.out w1)) ?_
  simp only [Act.put, List.setIfInBounds_toArray, List.set_cons_zero, List.set_cons_succ]
  refine q_move (some 9) rfl rfl (.tmp 14) rfl (.tuple #[.int .i64 V.1, .int .i64 V.2]) (by kernel_rfl) ?_
  simp only [Act.put, List.setIfInBounds_toArray, List.set_cons_zero, List.set_cons_succ]
  refine q_extract (some 15) rfl rfl (.tmp 9) 0 rfl #[.int .i64 V.1, .int .i64 V.2] (by kernel_rfl) (.int .i64 V.1) (by simp) ?_
  simp only [Act.put, List.setIfInBounds_toArray, List.set_cons_zero, List.set_cons_succ]
  refine q_extract (some 16) rfl rfl (.tmp 9) 1 rfl #[.int .i64 V.1, .int .i64 V.2] (by kernel_rfl) (.int .i64 V.2) (by simp) ?_
  simp only [Act.put, List.setIfInBounds_toArray, List.set_cons_zero, List.set_cons_succ]
  refine q_assign (some 5) rfl rfl (.tmp 15) rfl (.int .i64 V.1) (by kernel_rfl) ?_
  simp only [Act.put, List.setIfInBounds_toArray, List.set_cons_zero, List.set_cons_succ]
  refine q_assign (some 6) rfl rfl (.tmp 16) rfl (.int .i64 V.2) (by kernel_rfl) ?_
  simp only [Act.put, List.setIfInBounds_toArray, List.set_cons_zero, List.set_cons_succ]
  refine wpQuiet_nil ?_
  intro w2 hC
  clear HC
  have HC := Lib.hid hC
  clear hC
  go_upto_region 2 with (fail)
  refine wp_region_class (Cls w [(w.heap.size, F.vals, 27), (w.heap.size + 1, n.vals, 38)]) (by kernel_rfl) (by kernel_rfl) HC.out.drew ?_
  refine q_load (some 18) rfl rfl 27 (.tmp 2) rfl (w.heap.size) 0 (by kernel_rfl) F.vals _ (fun w1 h1 => h1.blk (w.heap.size, F.vals, 27) (List.Mem.head _)) (by rw [List.drop_zero, List.take_length]) Try.underlying27 rfl (by rw [hF.out.len]; kernel_rfl) ?_
  simp only [Act.put, List.setIfInBounds_toArray, List.set_cons_zero, List.set_cons_succ]
  refine q_call (some 19) rfl rfl Try.func11 (by kernel_rfl) rfl #[.agg F.vals.toArray] rfl (by simp only [List.map_toArray, List.map_cons, List.map_nil]; kernel_rfl) (.agg F.vals.toArray) (fun w1 h1 => h1.calls (toField_any F hF.out w1)) ?_
  simp only [Act.put, List.setIfInBounds_toArray, List.set_cons_zero, List.set_cons_succ]
  refine q_load (some 20) rfl rfl 38 (.tmp 3) rfl (w.heap.size + 1) 0 (by kernel_rfl) n.vals _ (fun w1 h1 => h1.blk (w.heap.size + 1, n.vals, 38) (List.Mem.tail _ (List.Mem.head _))) (by rw [List.drop_zero, List.take_length]) Try.underlying38 rfl (by kernel_rfl) ?_
  simp only [Act.put, List.setIfInBounds_toArray, List.set_cons_zero, List.set_cons_succ]
  refine q_call (some 21) rfl rfl Try.func16 (by kernel_rfl) rfl #[.agg n.vals.toArray] rfl (by simp only [List.map_toArray, List.map_cons, List.map_nil]; kernel_rfl) (.agg n.vals.toArray) (fun w1 h1 => h1.calls (toNet_any n w1)) ?_
  simp only [Act.put, List.setIfInBounds_toArray, List.set_cons_zero, List.set_cons_succ]
  refine q_call (some 22) rfl rfl Try.func19 (by kernel_rfl) rfl #[.agg F.vals.toArray, .agg n.vals.toArray] rfl (by simp only [List.map_toArray, List.map_cons, List.map_nil]; kernel_rfl) (.tuple #[.int .i64 V.1, .int .i64 V.2]) (fun w1 h1 => h1.calls (HIm.out w1)) ?_
  simp only [Act.put, List.setIfInBounds_toArray, List.set_cons_zero, List.set_cons_succ]
  refine q_move (some 17) rfl rfl (.tmp 22) rfl (.tuple #[.int .i64 V.1, .int .i64 V.2]) (by kernel_rfl) ?_
  simp only [Act.put, List.setIfInBounds_toArray, List.set_cons_zero, List.set_cons_succ]
  refine q_extract (some 23) rfl rfl (.tmp 17) 0 rfl #[.int .i64 V.1, .int .i64 V.2] (by kernel_rfl) (.int .i64 V.1) (by simp) ?_
  simp only [Act.put, List.setIfInBounds_toArray, List.set_cons_zero, List.set_cons_succ]
  refine q_extract (some 24) rfl rfl (.tmp 17) 1 rfl #[.int .i64 V.1, .int .i64 V.2] (by kernel_rfl) (.int .i64 V.2) (by simp) ?_
  simp only [Act.put, List.setIfInBounds_toArray, List.set_cons_zero, List.set_cons_succ]
  refine q_assign (some 7) rfl rfl (.tmp 23) rfl (.int .i64 V.1) (by kernel_rfl) ?_
  simp only [Act.put, List.setIfInBounds_toArray, List.set_cons_zero, List.set_cons_succ]
  refine q_assign (some 8) rfl rfl (.tmp 24) rfl (.int .i64 V.2) (by kernel_rfl) ?_
  simp only [Act.put, List.setIfInBounds_toArray, List.set_cons_zero, List.set_cons_succ]
  refine wpQuiet_nil ?_
  intro w3 hC
  clear HC
  have HC := Lib.hid hC
  clear hC
  have hV0 : (V.1 != V.1) = false := by simp
  have hV1 : (V.2 != V.2) = false := by simp
  go_wp2
  go_ret
  exact ⟨rfl, HC.out.below⟩

end Go.Proofs.Ytndhmcjcnmiobaa.LEdgeOf
