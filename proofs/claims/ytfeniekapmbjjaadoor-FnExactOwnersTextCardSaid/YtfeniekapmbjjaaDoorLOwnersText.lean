/- The law FnExactOwnersText, walked: the program and the reference answer the same. No condition. -/
import Derived.Test.YtfeniekapmbjjaaDoorGB
import Derived.Test.YtfeniekapmbjjaaDoorST3
namespace Go.Proofs.YtfeniekapmbjjaaDoor.LOwnersText
open Go.RowKit
set_option linter.unusedSimpArgs false
set_option linter.unusedVariables false

set_option maxHeartbeats 1000000 in
theorem walk (cs0 : List Value) (i0 : R.Ints fldKinds cs0) (cs1 : List Value) (i1 : R.Ints (List.replicate 100 .i8) cs1) (w : World) (hT : TabW w) :
    Calls Tryd.prog 3 #[.agg cs0.toArray, .agg cs1.toArray] w fun e w' => e = .returned (.bool true) ∧ Below w.heap.size w w' := by
  have HT := Lib.hid hT
  clear hT
  obtain ⟨F, hF', rfl⟩ := fld_of_ints i0
  have hF := Lib.hid hF'
  clear i0 hF'
  obtain ⟨os, hos', rfl⟩ := os_of_ints i1
  have hos := Lib.hid hos'
  clear i1 hos'
  go_enter Tryd.func3, Tryd.ntmps3
  go_upto_region 1 with (fail)
  obtain ⟨W, hW⟩ : ∃ W, W = (w.alloc (.cells F.vals.toArray 27)).alloc (.cells (vrow .i8 os).toArray 28) := ⟨_, rfl⟩
  have HC := Lib.hid (boxed2 w F.vals (vrow .i8 os) 27 28)
  rw [← hW] at HC ⊢
  clear hW
  refine wp_region_class (Cls w [(w.heap.size, F.vals, 27), (w.heap.size + 1, (vrow .i8 os), 28)]) (by kernel_rfl) (by kernel_rfl) HC.out.drew ?_
  refine q_load (some 7) rfl rfl 27 (.tmp 2) rfl (w.heap.size) 0 (by kernel_rfl) F.vals _ (fun w1 h1 => h1.blk (w.heap.size, F.vals, 27) (List.Mem.head _)) (by rw [List.drop_zero, List.take_length]) Tryd.underlying27 rfl (by rw [hF.out.len]; kernel_rfl) ?_
  simp only [Act.put, List.setIfInBounds_toArray, List.set_cons_zero, List.set_cons_succ]
  refine q_call (some 8) rfl rfl Tryd.func6 (by kernel_rfl) rfl #[.agg F.vals.toArray] rfl (by simp only [List.map_toArray, List.map_cons, List.map_nil]; kernel_rfl) (.agg F.vals.toArray) (fun w1 h1 => h1.calls (toField_any F hF.out w1)) ?_
  simp only [Act.put, List.setIfInBounds_toArray, List.set_cons_zero, List.set_cons_succ]
  refine q_load (some 9) rfl rfl 28 (.tmp 3) rfl (w.heap.size + 1) 0 (by kernel_rfl) (vrow .i8 os) _ (fun w1 h1 => h1.blk (w.heap.size + 1, (vrow .i8 os), 28) (List.Mem.tail _ (List.Mem.head _))) (by rw [List.drop_zero, List.take_length]) Tryd.underlying28 rfl (by rw [vrow_len, hos.out.len]; kernel_rfl) ?_
  simp only [Act.put, List.setIfInBounds_toArray, List.set_cons_zero, List.set_cons_succ]
  refine q_call (some 10) rfl rfl Tryd.func7 (by kernel_rfl) rfl #[.agg (vrow .i8 os).toArray] rfl (by simp only [List.map_toArray, List.map_cons, List.map_nil]; kernel_rfl) (.agg (vrow .i8 os).toArray) (fun w1 h1 => h1.calls (toOwners_any os hos.out.len w1)) ?_
  simp only [Act.put, List.setIfInBounds_toArray, List.set_cons_zero, List.set_cons_succ]
  refine q_call (some 11) rfl rfl Tryd.func5 (by kernel_rfl) rfl #[.agg F.vals.toArray, .agg (vrow .i8 os).toArray] rfl (by simp only [List.map_toArray, List.map_cons, List.map_nil]; kernel_rfl) (.string (if (F.valid && ownAll F os) = true then ownersText F os else emptyB)) (fun w1 h1 => h1.calls (sOwnersText_any F hF.out os hos.out w1)) ?_
  simp only [Act.put, List.setIfInBounds_toArray, List.set_cons_zero, List.set_cons_succ]
  refine q_assign (some 5) rfl rfl (.tmp 11) rfl (.string (if (F.valid && ownAll F os) = true then ownersText F os else emptyB)) (by kernel_rfl) ?_
  simp only [Act.put, List.setIfInBounds_toArray, List.set_cons_zero, List.set_cons_succ]
  refine wpQuiet_nil ?_
  intro w2 hC
  clear HC
  have HC := Lib.hid hC
  clear hC
  go_upto_region 2 with (fail)
  refine wp_region_class (Cls w [(w.heap.size, F.vals, 27), (w.heap.size + 1, (vrow .i8 os), 28)]) (by kernel_rfl) (by kernel_rfl) HC.out.drew ?_
  refine q_load (some 12) rfl rfl 27 (.tmp 2) rfl (w.heap.size) 0 (by kernel_rfl) F.vals _ (fun w1 h1 => h1.blk (w.heap.size, F.vals, 27) (List.Mem.head _)) (by rw [List.drop_zero, List.take_length]) Tryd.underlying27 rfl (by rw [hF.out.len]; kernel_rfl) ?_
  simp only [Act.put, List.setIfInBounds_toArray, List.set_cons_zero, List.set_cons_succ]
  refine q_call (some 13) rfl rfl Tryd.func6 (by kernel_rfl) rfl #[.agg F.vals.toArray] rfl (by simp only [List.map_toArray, List.map_cons, List.map_nil]; kernel_rfl) (.agg F.vals.toArray) (fun w1 h1 => h1.calls (toField_any F hF.out w1)) ?_
  simp only [Act.put, List.setIfInBounds_toArray, List.set_cons_zero, List.set_cons_succ]
  refine q_load (some 14) rfl rfl 28 (.tmp 3) rfl (w.heap.size + 1) 0 (by kernel_rfl) (vrow .i8 os) _ (fun w1 h1 => h1.blk (w.heap.size + 1, (vrow .i8 os), 28) (List.Mem.tail _ (List.Mem.head _))) (by rw [List.drop_zero, List.take_length]) Tryd.underlying28 rfl (by rw [vrow_len, hos.out.len]; kernel_rfl) ?_
  simp only [Act.put, List.setIfInBounds_toArray, List.set_cons_zero, List.set_cons_succ]
  refine q_call (some 15) rfl rfl Tryd.func7 (by kernel_rfl) rfl #[.agg (vrow .i8 os).toArray] rfl (by simp only [List.map_toArray, List.map_cons, List.map_nil]; kernel_rfl) (.agg (vrow .i8 os).toArray) (fun w1 h1 => h1.calls (toOwners_any os hos.out.len w1)) ?_
  simp only [Act.put, List.setIfInBounds_toArray, List.set_cons_zero, List.set_cons_succ]
  refine q_call (some 16) rfl rfl Tryd.func8 (by kernel_rfl) rfl #[.agg F.vals.toArray, .agg (vrow .i8 os).toArray] rfl (by simp only [List.map_toArray, List.map_cons, List.map_nil]; kernel_rfl) (.string (if (F.valid && ownAll F os) = true then ownersText F os else emptyB)) (fun w1 h1 => h1.calls (iOwnersText_any F hF.out os hos.out w1 (HT.out.below h1.below))) ?_
  simp only [Act.put, List.setIfInBounds_toArray, List.set_cons_zero, List.set_cons_succ]
  refine q_assign (some 6) rfl rfl (.tmp 16) rfl (.string (if (F.valid && ownAll F os) = true then ownersText F os else emptyB)) (by kernel_rfl) ?_
  simp only [Act.put, List.setIfInBounds_toArray, List.set_cons_zero, List.set_cons_succ]
  refine wpQuiet_nil ?_
  intro w3 hC
  clear HC
  have HC := Lib.hid hC
  clear hC
  generalize (if (F.valid && ownAll F os) = true then ownersText F os else emptyB) = V
  go_wp2
  go_ret
  exact ⟨rfl, HC.out.below⟩

end Go.Proofs.YtfeniekapmbjjaaDoor.LOwnersText
