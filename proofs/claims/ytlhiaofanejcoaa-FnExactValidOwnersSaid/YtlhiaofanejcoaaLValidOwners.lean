/- The law of ValidOwners, walked: the program and the reference answer the same. No condition. -/
import Derived.Test.YtlhiaofanejcoaaA1
namespace Go.Proofs.Ytlhiaofanejcoaa.LValidOwners
open Go.RowKit
set_option linter.unusedSimpArgs false
set_option linter.unusedVariables false

theorem walk (cs0 : List Value) (i0 : R.Ints fldKinds cs0) (cs1 : List Value) (i1 : R.Ints (List.replicate 100 .i8) cs1) (w : World) :
    Calls Try.prog 3 #[.agg cs0.toArray, .agg cs1.toArray] w fun e w' => e = .returned (.bool true) ∧ Below w.heap.size w w' := by
  obtain ⟨F, ho, rfl⟩ := fld_of_ints i0
  obtain ⟨os, hs, rfl⟩ := os_of_ints i1
  clear i0 i1
  have HO := Lib.hid ho
  have HS := Lib.hid hs
  clear ho hs
  go_enter Try.func3, Try.ntmps3
  go_upto_region 1 with (fail)
  obtain ⟨W, hW⟩ : ∃ W, W = (w.alloc (.cells F.vals.toArray 27)).alloc (.cells (vrow .i8 os).toArray 28) := ⟨_, rfl⟩
  have HC := Lib.hid (boxed2 w F.vals (vrow .i8 os) 27 28)
  rw [← hW] at HC ⊢
  clear hW
  refine wp_region_class (Cls w [(w.heap.size, F.vals, 27), (w.heap.size + 1, vrow .i8 os, 28)]) (by kernel_rfl) (by kernel_rfl) HC.out.drew ?_
  refine q_load (some 7) rfl rfl 27 (.tmp 2) rfl w.heap.size 0 rfl F.vals _ (fun w1 h1 => h1.blk (w.heap.size, F.vals, 27) (by simp)) (by rw [List.drop_zero, List.take_length]) Try.underlying27 rfl (by rw [HO.out.len]; kernel_rfl) ?_
  simp only [Act.put, List.setIfInBounds_toArray, List.set_cons_zero, List.set_cons_succ]
  refine q_call (some 8) rfl rfl Try.func16 (by kernel_rfl) rfl #[.agg F.vals.toArray] rfl (by simp only [List.map_toArray, List.map_cons, List.map_nil]; rfl) (.agg F.vals.toArray) (fun w1 h1 => h1.calls (toField_any F HO.out w1)) ?_
  simp only [Act.put, List.setIfInBounds_toArray, List.set_cons_zero, List.set_cons_succ]
  refine q_load (some 9) rfl rfl 28 (.tmp 3) rfl (w.heap.size + 1) 0 rfl (vrow .i8 os) _ (fun w1 h1 => h1.blk (w.heap.size + 1, vrow .i8 os, 28) (by simp)) (by rw [List.drop_zero, List.take_length]) Try.underlying28 rfl (by rw [vrow_len, HS.out.len]; kernel_rfl) ?_
  simp only [Act.put, List.setIfInBounds_toArray, List.set_cons_zero, List.set_cons_succ]
  refine q_call (some 10) rfl rfl Try.func17 (by kernel_rfl) rfl #[.agg (vrow .i8 os).toArray] rfl (by simp only [List.map_toArray, List.map_cons, List.map_nil]; rfl) (.agg (vrow .i8 os).toArray) (fun w1 h1 => h1.calls (toOwners_any os HS.out.len w1)) ?_
  simp only [Act.put, List.setIfInBounds_toArray, List.set_cons_zero, List.set_cons_succ]
  refine q_call (some 11) rfl rfl Try.func15 (by kernel_rfl) rfl #[.agg F.vals.toArray, .agg (vrow .i8 os).toArray] rfl (by simp only [List.map_toArray, List.map_cons, List.map_nil]; rfl) (.bool (F.valid && ownAll F os)) (fun w1 h1 => h1.calls (sValidOwners_any F HO.out os HS.out w1)) ?_
  simp only [Act.put, List.setIfInBounds_toArray, List.set_cons_zero, List.set_cons_succ]
  refine q_assign (some 5) rfl rfl (.tmp 11) rfl (.bool (F.valid && ownAll F os)) rfl ?_
  simp only [Act.put, List.setIfInBounds_toArray, List.set_cons_zero, List.set_cons_succ]
  refine wpQuiet_nil ?_
  intro w1 hC
  clear HC
  have HC := Lib.hid hC
  clear hC
  go_upto_region 2 with (fail)
  refine wp_region_class (Cls w [(w.heap.size, F.vals, 27), (w.heap.size + 1, vrow .i8 os, 28)]) (by kernel_rfl) (by kernel_rfl) HC.out.drew ?_
  refine q_load (some 12) rfl rfl 27 (.tmp 2) rfl w.heap.size 0 rfl F.vals _ (fun w1 h1 => h1.blk (w.heap.size, F.vals, 27) (by simp)) (by rw [List.drop_zero, List.take_length]) Try.underlying27 rfl (by rw [HO.out.len]; kernel_rfl) ?_
  simp only [Act.put, List.setIfInBounds_toArray, List.set_cons_zero, List.set_cons_succ]
  refine q_call (some 13) rfl rfl Try.func16 (by kernel_rfl) rfl #[.agg F.vals.toArray] rfl (by simp only [List.map_toArray, List.map_cons, List.map_nil]; rfl) (.agg F.vals.toArray) (fun w1 h1 => h1.calls (toField_any F HO.out w1)) ?_
  simp only [Act.put, List.setIfInBounds_toArray, List.set_cons_zero, List.set_cons_succ]
  refine q_load (some 14) rfl rfl 28 (.tmp 3) rfl (w.heap.size + 1) 0 rfl (vrow .i8 os) _ (fun w1 h1 => h1.blk (w.heap.size + 1, vrow .i8 os, 28) (by simp)) (by rw [List.drop_zero, List.take_length]) Try.underlying28 rfl (by rw [vrow_len, HS.out.len]; kernel_rfl) ?_
  simp only [Act.put, List.setIfInBounds_toArray, List.set_cons_zero, List.set_cons_succ]
  refine q_call (some 15) rfl rfl Try.func17 (by kernel_rfl) rfl #[.agg (vrow .i8 os).toArray] rfl (by simp only [List.map_toArray, List.map_cons, List.map_nil]; rfl) (.agg (vrow .i8 os).toArray) (fun w1 h1 => h1.calls (toOwners_any os HS.out.len w1)) ?_
  simp only [Act.put, List.setIfInBounds_toArray, List.set_cons_zero, List.set_cons_succ]
  refine q_call (some 16) rfl rfl Try.func18 (by kernel_rfl) rfl #[.agg F.vals.toArray, .agg (vrow .i8 os).toArray] rfl (by simp only [List.map_toArray, List.map_cons, List.map_nil]; rfl) (.bool (F.valid && ownAll F os)) (fun w1 h1 => h1.calls (iValidOwners_any F HO.out os HS.out w1)) ?_
  simp only [Act.put, List.setIfInBounds_toArray, List.set_cons_zero, List.set_cons_succ]
  refine q_assign (some 6) rfl rfl (.tmp 16) rfl (.bool (F.valid && ownAll F os)) rfl ?_
  simp only [Act.put, List.setIfInBounds_toArray, List.set_cons_zero, List.set_cons_succ]
  refine wpQuiet_nil ?_
  intro w2 hC
  clear HC
  have HC := Lib.hid hC
  clear hC
  generalize (F.valid && ownAll F os) = V
  have hV : (V != V) = false := by simp
  go_wp2
  go_ret
  exact ⟨rfl, HC.out.below⟩
end Go.Proofs.Ytlhiaofanejcoaa.LValidOwners
